/- Plain law: the text of a ratio, its words, and what reading them gives. No program in sight. -/
import Derived.Test.YtalodfjplegibaaGreatDoorNrA
import Derived.Test.YtalodfjplegibaaGreatDoorNatP
import Derived.Lib.SplitLaws
import Derived.Lib.Join
import Derived.Lib.ItoaMem
import Derived.Lib.IndexMore
import Derived.Lib.ParseIntB
namespace Go.Proofs.YtalodfjplegibaaGreatDoor
set_option linter.unusedSimpArgs false
open Go.RowKit
set_option linter.unusedVariables false

/-- cut at every c -/
def xspl (c : UInt8) : List UInt8 → List (List UInt8)
  | [] => [[]]
  | b :: l => if b = c then [] :: xspl c l else match xspl c l with
    | [] => [[b]]
    | h :: t => (b :: h) :: t
theorem xspl_eq (c : UInt8) (l : List UInt8) : xspl c (c :: l) = [] :: xspl c l := by rw [xspl, if_pos rfl]
theorem xspl_ne {b c : UInt8} {l h : List UInt8} {t : List (List UInt8)} (hb : b ≠ c) (hs : xspl c l = h :: t) : xspl c (b :: l) = (b :: h) :: t := by rw [xspl, if_neg hb, hs]
theorem xspl_no {c : UInt8} : ∀ {a : List UInt8}, c ∉ a → xspl c a = [a]
  | [], _ => rfl
  | b :: a, h => by
    have h1 : b ≠ c := fun e => h (by rw [e]; exact List.mem_cons_self)
    exact xspl_ne h1 (xspl_no (fun hm => h (List.mem_cons_of_mem _ hm)))
theorem xspl_hit {c : UInt8} (l : List UInt8) : ∀ {a : List UInt8}, c ∉ a → xspl c (a ++ c :: l) = a :: xspl c l
  | [], _ => xspl_eq c l
  | b :: a, h => by
    have h1 : b ≠ c := fun e => h (by rw [e]; exact List.mem_cons_self)
    exact xspl_ne h1 (xspl_hit l (fun hm => h (List.mem_cons_of_mem _ hm)))
theorem xspl_join {c : UInt8} : ∀ (ws : List (List UInt8)), ws ≠ [] → (∀ x ∈ ws, c ∉ x) → xspl c (Lib.join ws [c]) = ws
  | [], h, _ => absurd rfl h
  | [a], _, h => by rw [Lib.join_one]; exact xspl_no (h a (by simp))
  | a :: b :: l, _, h => by
    have e : Lib.join (a :: b :: l) [c] = a ++ c :: Lib.join (b :: l) [c] := by simp [Lib.join]
    rw [e, xspl_hit _ (h a (by simp)), xspl_join (b :: l) (by simp) (fun x hx => h x (List.mem_cons_of_mem _ hx))]
theorem xidx_eq (c : UInt8) (l : List UInt8) : Lib.index (c :: l) [c] = 0 := by rw [Lib.index]; simp [List.isPrefixOf]
theorem xidx_ne {b c : UInt8} (l : List UInt8) (h : b ≠ c) : Lib.index (b :: l) [c] = if Lib.index l [c] == -1 then -1 else Lib.index l [c] + 1 := by
  have hp : ([c] : List UInt8).isPrefixOf (b :: l) = false := by simp [List.isPrefixOf, Ne.symm h]
  rw [Lib.index, hp]; simp
theorem xidx_no {c : UInt8} : ∀ {a : List UInt8}, c ∉ a → Lib.index a [c] = -1
  | [], _ => by simp [Lib.index]
  | b :: a, h => by
    have h1 : b ≠ c := fun e => h (by rw [e]; exact List.mem_cons_self)
    rw [xidx_ne a h1, xidx_no (fun hm => h (List.mem_cons_of_mem _ hm))]
    rfl
theorem xidx_hit {c : UInt8} (l : List UInt8) : ∀ {a : List UInt8}, c ∉ a → Lib.index (a ++ c :: l) [c] = (a.length : Int)
  | [], _ => xidx_eq c l
  | b :: a, h => by
    have h1 : b ≠ c := fun e => h (by rw [e]; exact List.mem_cons_self)
    have ih := xidx_hit l (a := a) (fun hm => h (List.mem_cons_of_mem _ hm))
    rw [List.cons_append, xidx_ne _ h1, ih, if_neg (by intro e; have := eq_of_beq e; omega), List.length_cons]
    omega
theorem xsplitK_spl (c : UInt8) : ∀ s : List UInt8, Lib.splitK [c] 0 (Lib.count s [c]) s = xspl c s
  | [] => by rw [Lib.count_miss (by simp [Lib.index])]; rfl
  | b :: l => by
    have ih := xsplitK_spl c l
    by_cases hb : b = c
    · subst hb
      rw [Lib.count_cons_eq, Nat.add_comm, Lib.splitK, xidx_eq, if_neg (by decide), xspl_eq]
      show ([] : List UInt8) :: Lib.splitK [b] 0 (Lib.count l [b]) l = _
      rw [ih]
    · rw [Lib.count_cons_ne _ _ _ hb]
      rcases hk : Lib.count l [c] with _ | k
      · rw [hk] at ih
        exact (xspl_ne hb ih.symm).symm
      · rw [hk] at ih
        have hge := Lib.index_ge l [c]
        have hn : Lib.index l [c] ≠ -1 := fun e => by rw [Lib.count_miss e] at hk; omega
        obtain ⟨i, hi⟩ := Int.eq_ofNat_of_zero_le (show 0 ≤ Lib.index l [c] by omega)
        have e1 : ¬ ((i : Int) == -1) = true := fun e => by have := eq_of_beq e; omega
        have e2 : ¬ ((i : Int) + 1 == -1) = true := fun e => by have := eq_of_beq e; omega
        rw [Lib.splitK, hi, if_neg e1] at ih
        rw [Lib.splitK, xidx_ne l hb, hi, if_neg e1, if_neg e2]
        have e3 : ((i : Int) + 1).toNat = (i : Int).toNat + 1 := by omega
        rw [e3, xspl_ne hb ih.symm]
        rfl
/-- the words of a string -/
def xwordsB (s : ByteArray) : List ByteArray := (xspl 32 s.data.toList).map fun l => ⟨l.toArray⟩
theorem xmap_bytes (l : List ByteArray) : (l.map (·.data.toList)).map (fun x => (⟨x.toArray⟩ : ByteArray)) = l := by
  rw [List.map_map]
  conv => rhs; rw [← List.map_id l]
  exact List.map_congr_left (fun b _ => by simp)
theorem xsplit_words (s : ByteArray) : Lib.splitB ⟨#[32]⟩ 0 (Lib.countB s ⟨#[32]⟩) s = xwordsB s := by
  have h := Lib.splitB_data ⟨#[32]⟩ 0 (Lib.countB s ⟨#[32]⟩) s
  have h2 : Lib.splitK [32] 0 (Lib.count s.data.toList [32]) s.data.toList = xspl 32 s.data.toList := xsplitK_spl 32 _
  have h3 : (Lib.splitB ⟨#[32]⟩ 0 (Lib.countB s ⟨#[32]⟩) s).map (·.data.toList) = xspl 32 s.data.toList := h.trans h2
  unfold xwordsB
  rw [← h3, xmap_bytes]

theorem xcut_no {c : UInt8} {l : List UInt8} (h : c ∉ l) : Lib.cut l [c] = (l, [], false) := by
  unfold Lib.cut; rw [xidx_no h, if_neg (by decide)]
theorem xcut_hit {c : UInt8} {a b : List UInt8} (h : c ∉ a) : Lib.cut (a ++ c :: b) [c] = (a, b, true) := by
  unfold Lib.cut; rw [xidx_hit b h, if_pos (by omega)]
  have e : ((a.length : Int)).toNat = a.length := by omega
  rw [e]
  congr 1
  · simp
  · congr 1
    rw [List.length_singleton, ← List.drop_drop, List.drop_left]
    rfl
/-- what ParseInt to base 10 and 32 places gives; 0: an error -/
def rdX (l : List UInt8) : Int := match Lib.parseIntB 32 l with
  | .ok v => v
  | _ => 0
theorem numV_ge (v : Nat) (l : List UInt8) : v ≤ numV v l := by
  rw [numV_eq]
  have := Nat.le_mul_of_pos_right v (Nat.pow_pos (n := l.length) (show 0 < 10 by decide))
  omega
theorem parseUM_ok {M : Nat} (hM : M < 1844674407370955162) : ∀ (l : List UInt8) (v : Nat), l.all isDig = true → numV v l ≤ M → Lib.parseUintM M v l = .ok (numV v l)
  | [], v, _, _ => rfl
  | b :: l, v, h, hb => by
    rw [List.all_cons, Bool.and_eq_true] at h
    have h1 := isDig_iff.1 h.1
    rw [numV_cons] at hb
    have h2 := numV_ge (v * 10 + (b.toNat - 48)) l
    rw [Lib.parseUintM, if_pos h1, if_neg (by omega), if_neg (by omega), numV_cons]
    exact parseUM_ok hM l _ h.2 hb
theorem dec_cons (u : Nat) : ∃ b r, Lib.decDigits u = b :: r ∧ 48 ≤ b.toNat ∧ b.toNat ≤ 57 := by
  have ha := decDigits_all u
  rcases h : Lib.decDigits u with _ | ⟨b, r⟩
  · rw [Lib.decDigits] at h
    split at h <;> simp at h
  · rw [h, List.all_cons, Bool.and_eq_true] at ha
    exact ⟨b, r, rfl, isDig_iff.1 ha.1⟩
theorem rdX_itoa {z : Int} (h1 : -2147483648 < z) (h2 : z < 2147483648) : rdX (Lib.itoa z) = z := by
  have e31 : 2 ^ (32 - 1) = 2147483648 := by decide
  have e32 : 2 ^ 32 - 1 = 4294967295 := by decide
  have key : ∀ u : Nat, u ≤ 2147483648 → Lib.parseUintB 32 (Lib.decDigits u) = .ok u := fun u hu => by
    obtain ⟨b, r, hb, _⟩ := dec_cons u
    unfold Lib.parseUintB
    rw [if_neg (by rw [hb]; simp), e32, parseUM_ok (by decide) _ _ (decDigits_all u) (by rw [numV_decDigits]; omega), numV_decDigits]
  unfold rdX Lib.itoa
  by_cases hz : z < 0
  · rw [if_pos hz]
    unfold Lib.parseIntB
    have c45 : (45 : UInt8).toNat = 45 := rfl
    simp only [c45, or_true, if_true, e31]
    rw [key z.natAbs (by omega)]
    simp only [not_true, false_and, if_false, true_and]
    rw [if_neg (by omega)]
    show -((z.natAbs : Nat) : Int) = z
    omega
  · rw [if_neg hz]
    obtain ⟨b, r, hb, hd⟩ := dec_cons z.toNat
    have hk := key z.toNat (by omega)
    rw [hb] at hk ⊢
    unfold Lib.parseIntB
    have n43 : ¬ b.toNat = 43 := by omega
    have n45 : ¬ b.toNat = 45 := by omega
    simp only [n43, n45, or_self, if_false]
    rw [hk]
    simp only [not_false_eq_true, true_and, false_and, if_false, e31]
    rw [if_neg (by omega)]
    show ((z.toNat : Nat) : Int) = z
    omega
theorem itoa_no {c : UInt8} (hc : isDig c = false) (h45 : c ≠ 45) (z : Int) : c ∉ Lib.itoa z := by
  have hd : ∀ u, c ∉ Lib.decDigits u := fun u hm => by
    have := List.all_eq_true.1 (decDigits_all u) c hm
    rw [hc] at this; cases this
  unfold Lib.itoa
  split
  · intro hm
    rcases List.mem_cons.1 hm with h | h
    · exact h45 h
    · exact hd _ h
  · exact hd _
theorem itoa_ne (z : Int) : Lib.itoa z ≠ [] := by
  unfold Lib.itoa
  split
  · simp
  · obtain ⟨b, r, hb, _⟩ := dec_cons z.toNat
    rw [hb]; simp
/-- the greatest common divisor of an exponent and the denominator -/
def gR (k d : Int) : Nat := Nat.gcd d.natAbs k.natAbs
/-- the part of a word behind the prime -/
def exR (k d : Int) : List UInt8 := Lib.itoa (k.tdiv (gR k d : Nat)) ++ (if ((gR k d : Nat) : Int) < d then 47 :: Lib.itoa (d.tdiv (gR k d : Nat)) else [])
/-- a word -/
def wrR (p : Nat) (k d : Int) : List UInt8 := Lib.itoa (p : Int) ++ 94 :: exR k d
/-- the words of a ratio -/
def wdsR (r : RV) : List (List UInt8) := (termsN r 6).map fun x => wrR x.1 x.2 r.d
/-- its text -/
def txR (r : RV) : List UInt8 := if termsN r 6 = [] then [49] else Lib.join (wdsR r) [32]
theorem gR_pos {k d : Int} (hd : 1 ≤ d) : 0 < gR k d ∧ ((gR k d : Nat) : Int) ≤ d := by
  have h0 : 0 < d.natAbs := by omega
  refine ⟨Nat.gcd_pos_of_pos_left _ h0, ?_⟩
  have := Nat.gcd_le_left k.natAbs h0
  unfold gR; omega
theorem gR_k (k d : Int) : k.tdiv (gR k d : Nat) * ((gR k d : Nat) : Int) = k := Int.tdiv_mul_cancel (Int.ofNat_dvd_left.2 (Nat.gcd_dvd_right _ _))
theorem gR_d (k d : Int) : d.tdiv (gR k d : Nat) * ((gR k d : Nat) : Int) = d := Int.tdiv_mul_cancel (Int.ofNat_dvd_left.2 (Nat.gcd_dvd_left _ _))
theorem gR_low {k d : Int} (hd : 1 ≤ d) : Nat.gcd (d.tdiv (gR k d : Nat)).natAbs (k.tdiv (gR k d : Nat)).natAbs = 1 := by
  rw [Int.natAbs_tdiv, Int.natAbs_tdiv, Int.natAbs_natCast]
  exact Nat.coprime_div_gcd_div_gcd (gR_pos hd (k := k)).1
theorem gR_bd {k d : Int} (hd : 1 ≤ d) : (1 ≤ d.tdiv (gR k d : Nat) ∧ d.tdiv (gR k d : Nat) ≤ d) ∧ (k.tdiv (gR k d : Nat)).natAbs ≤ k.natAbs := by
  have h1 := gR_d k d
  have h2 := gR_k k d
  obtain ⟨h3, h4⟩ := gR_pos hd (k := k)
  generalize gR k d = g at *
  have h5 : 0 ≤ d.tdiv (g : Int) := Int.tdiv_nonneg (by omega) (by omega)
  have h6 : (d.tdiv (g : Int)).natAbs * g = d.natAbs := by rw [← h1, Int.natAbs_mul, Int.natAbs_natCast, h1]
  have h7 : (k.tdiv (g : Int)).natAbs * g = k.natAbs := by rw [← h2, Int.natAbs_mul, Int.natAbs_natCast, h2]
  have h8 := Nat.le_mul_of_pos_right (d.tdiv (g : Int)).natAbs h3
  have h9 := Nat.le_mul_of_pos_right (k.tdiv (g : Int)).natAbs h3
  rw [h6] at h8
  rw [h7] at h9
  have h10 : (d.tdiv (g : Int)).natAbs ≠ 0 := fun h => by rw [h] at h6; omega
  exact ⟨⟨by omega, by omega⟩, h9⟩
/-- what a word is read as -/
def wdP (w : List UInt8) : Int := rdX (Lib.cut w [94]).1
def wdE (w : List UInt8) : List UInt8 := (Lib.cut w [94]).2.1
def wdN (w : List UInt8) : Int := rdX (Lib.cut (wdE w) [47]).1
def wdD (w : List UInt8) : Int := rdX (if (Lib.cut (wdE w) [47]).2.1 = [] then [49] else (Lib.cut (wdE w) [47]).2.1)
theorem wr_cut (p : Nat) (k d : Int) : Lib.cut (wrR p k d) [94] = (Lib.itoa (p : Int), exR k d, true) := xcut_hit (itoa_no (by decide) (by decide) _)
theorem ex_cut (k : Int) {d : Int} (hd : 1 ≤ d) : Lib.cut (exR k d) [47] = if ((gR k d : Nat) : Int) < d then (Lib.itoa (k.tdiv (gR k d : Nat)), Lib.itoa (d.tdiv (gR k d : Nat)), true) else (Lib.itoa (k.tdiv (gR k d : Nat)), [], false) := by
  unfold exR
  split
  · exact xcut_hit (itoa_no (by decide) (by decide) _)
  · rw [List.append_nil]; exact xcut_no (itoa_no (by decide) (by decide) _)
theorem wr_read {p : Nat} {k d : Int} (hp : p ≤ 13) (hk : inR k) (hd : 1 ≤ d ∧ d ≤ 1000) : (Lib.cut (wrR p k d) [94]).2.2 = true ∧ wdP (wrR p k d) = (p : Int) ∧ wdN (wrR p k d) = k.tdiv (gR k d : Nat) ∧ wdD (wrR p k d) = d.tdiv (gR k d : Nat) := by
  have hb := gR_bd hd.1 (k := k)
  have hk1 := hk.1
  have hk2 := hk.2
  have e := ex_cut k hd.1
  have eE : wdE (wrR p k d) = exR k d := by unfold wdE; rw [wr_cut]
  refine ⟨by rw [wr_cut], ?_, ?_, ?_⟩
  · unfold wdP; rw [wr_cut]; exact rdX_itoa (z := (p : Int)) (by omega) (by omega)
  · unfold wdN
    rw [eE, e]
    split <;> exact rdX_itoa (z := k.tdiv (gR k d : Nat)) (by omega) (by omega)
  · unfold wdD
    rw [eE, e]
    have hg := gR_d k d
    by_cases h1 : ((gR k d : Nat) : Int) < d
    · rw [if_pos h1, if_neg (itoa_ne _)]
      exact rdX_itoa (z := d.tdiv (gR k d : Nat)) (by omega) (by omega)
    · rw [if_neg h1, if_pos rfl]
      have h2 : ((gR k d : Nat) : Int) = d := by have := (gR_pos hd.1 (k := k)).2; omega
      rw [h2, Int.tdiv_self (by omega)]
      decide +kernel
theorem wr_no {p : Nat} {k d : Int} : (32 : UInt8) ∉ wrR p k d := by
  unfold wrR exR
  intro hm
  rcases List.mem_append.1 hm with h | h
  · exact itoa_no (by decide) (by decide) _ h
  · rcases List.mem_cons.1 h with h | h
    · exact absurd h (by decide)
    · rcases List.mem_append.1 h with h | h
      · exact itoa_no (by decide) (by decide) _ h
      · split at h
        · rcases List.mem_cons.1 h with h | h
          · exact absurd h (by decide)
          · exact itoa_no (by decide) (by decide) _ h
        · cases h
theorem wds_len (r : RV) : (wdsR r).length = (termsN r 6).length := List.length_map ..
/-- the words of a text -/
def wofS (s : List UInt8) : List (List UInt8) := if s = [49] then [] else xspl 32 s
theorem mem_join {c : UInt8} {w : List UInt8} (hc : c ∈ w) : ∀ {l : List (List UInt8)}, w ∈ l → c ∈ Lib.join l [32]
  | [a], h => by
    rw [List.mem_singleton] at h
    subst h; rw [Lib.join_one]; exact hc
  | a :: b :: l, h => by
    have e : Lib.join (a :: b :: l) [32] = a ++ 32 :: Lib.join (b :: l) [32] := by simp [Lib.join]
    rw [e]
    rcases List.mem_cons.1 h with rfl | h
    · exact List.mem_append_left _ hc
    · exact List.mem_append_right _ (List.mem_cons_of_mem _ (mem_join hc h))
theorem txR_some {r : RV} (h : termsN r 6 ≠ []) : txR r = Lib.join (wdsR r) [32] ∧ txR r ≠ [49] ∧ xspl 32 (txR r) = wdsR r := by
  have e : txR r = Lib.join (wdsR r) [32] := by unfold txR; rw [if_neg h]
  have hn : wdsR r ≠ [] := fun h0 => h (List.map_eq_nil_iff.1 h0)
  refine ⟨e, fun h1 => ?_, ?_⟩
  · obtain ⟨w, l, hw⟩ := List.exists_cons_of_ne_nil hn
    obtain ⟨x, hx, hxw⟩ := List.mem_map.1 (show w ∈ wdsR r by rw [hw]; exact List.mem_cons_self)
    have hc : (94 : UInt8) ∈ w := by rw [← hxw]; exact List.mem_append_right _ List.mem_cons_self
    have := mem_join hc (show w ∈ wdsR r by rw [hw]; exact List.mem_cons_self)
    rw [← e, h1] at this
    exact absurd this (by decide)
  · rw [e]
    exact xspl_join _ hn (fun x hx => by
      obtain ⟨y, _, rfl⟩ := List.mem_map.1 hx
      exact wr_no)
theorem wof_tx (r : RV) : wofS (txR r) = wdsR r := by
  unfold wofS
  by_cases h : termsN r 6 = []
  · have e : txR r = [49] := by unfold txR; rw [if_pos h]
    rw [e, if_pos rfl]
    unfold wdsR; rw [h]; rfl
  · rw [if_neg (txR_some h).2.1, (txR_some h).2.2]
/-- the power of one prime -/
def unR (i : Nat) (n d : Int) : RV := RV.of (fun t => if t = i then n else 0) d
theorem RV.gcd_of (f : Nat → Int) (d : Int) (i : Nat) (hi : i < 6) (h0 : ∀ t, t < 6 → t ≠ i → f t = 0) : (RV.of f d).gcd 6 = Nat.gcd d.natAbs (f i).natAbs := by
  have h : ∀ m, m ≤ 6 → (RV.of f d).gcd m = if i < m then Nat.gcd d.natAbs (f i).natAbs else d.natAbs := by
    intro m
    induction m with
    | zero => intro _; rw [if_neg (by omega)]; rfl
    | succ m ih =>
      intro hm
      have e : (RV.of f d).gcd (m + 1) = Nat.gcd ((RV.of f d).gcd m) ((RV.of f d).num m).natAbs := rfl
      rw [e, ih (by omega), RV.of_num _ _ (by omega)]
      by_cases h1 : m = i
      · subst h1; rw [if_neg (by omega), if_pos (by omega)]
      · rw [h0 m (by omega) h1, Int.natAbs_zero, Nat.gcd_zero_right]
        by_cases h2 : i < m
        · rw [if_pos h2, if_pos (by omega)]
        · rw [if_neg h2, if_neg (by omega)]
  rw [h 6 (Nat.le_refl _), if_pos hi]
theorem mkR_self {r : RV} (h : r.gcd 6 = 1) : mkR r = r := by
  refine RV.ext6 (fun j hj => ?_) ?_
  · rw [mkR_num r hj, h]; exact Int.tdiv_one _
  · show r.d.tdiv (r.gcd 6 : Nat) = r.d
    rw [h]; exact Int.tdiv_one _
theorem check_of {r : RV} (h1 : 1 ≤ r.d) (h2 : r.d ≤ 1000) (h3 : ∀ i, i < 6 → inR (r.num i)) (h4 : r.gcd 6 = 1) : checkS r = 0 := by
  unfold checkS
  rw [if_neg (by omega), if_pos h3, if_pos h4]
theorem made_self {r : RV} (h : checkS r = 0) : madeS r = (r, 0) := by
  obtain ⟨h1, h2, h3⟩ := checkS_ok h
  have e := mkR_self h3
  have := (madeS_check r h1.1).1 (by rw [e]; exact h)
  rw [e] at this
  exact this
theorem inR_abs {a b : Int} (h : a.natAbs ≤ b.natAbs) (hb : inR b) : inR a := by
  have := hb.1
  have := hb.2
  constructor <;> omega
theorem un_check {i : Nat} (hi : i < 6) {k d : Int} (hk : inR k) (hd : 1 ≤ d ∧ d ≤ 1000) : checkS (unR i (k.tdiv (gR k d : Nat)) (d.tdiv (gR k d : Nat))) = 0 := by
  have hb := gR_bd hd.1 (k := k)
  refine check_of hb.1.1 (by show d.tdiv _ ≤ 1000; omega) (fun t ht => ?_) ?_
  · unfold unR
    rw [RV.of_num _ _ ht]
    split
    · exact inR_abs hb.2 hk
    · exact ⟨by decide, by decide⟩
  · unfold unR
    rw [RV.gcd_of _ _ i hi (fun t _ h => if_neg h), if_pos rfl]
    exact gR_low hd.1
/-- 1 -/
def oneR : RV := RV.of (fun _ => 0) 1
theorem one_gcd : oneR.gcd 6 = 1 := RV.gcd_of (fun _ => 0) 1 0 (by decide) (fun _ _ _ => rfl)
/-- the product of the powers of the first primes -/
def Pm (r : RV) (i : Nat) : RV := nr (fun t => if t < i then r.num t else 0) r.d
theorem nr_chk {v : Nat → Int} {D : Int} (h1 : 1 ≤ D) (h2 : D ≤ 1000) (h3 : ∀ j, j < 6 → inR (v j)) : checkS (nr v D) = 0 := by
  obtain ⟨g, hg, e1, e2⟩ := nr_g v h1
  have hp : 1 ≤ (nr v D).d := mkR_pos _ h1
  refine check_of hp ?_ (fun j hj => ?_) (mkR_one _ h1)
  · have : (nr v D).d * 1 ≤ (nr v D).d * (g : Int) := Int.mul_le_mul_of_nonneg_left (by omega) (by omega)
    omega
  · refine inR_abs ?_ (h3 j hj)
    rw [← e2 j hj, Int.natAbs_mul, Int.natAbs_natCast]
    exact Nat.le_mul_of_pos_right _ hg
theorem Pm_zero {r : RV} (h : checkS r = 0) : Pm r 0 = oneR := by
  have e : Pm r 0 = nr (fun _ => 0) 1 := nr_cross (checkS_ok h).1.1 (by decide) (fun j hj => by rw [if_neg (Nat.not_lt_zero _)]; omega)
  rw [e]
  exact mkR_self one_gcd
theorem RV.of_self (r : RV) : RV.of r.num r.d = r := RV.ext6 (fun j hj => RV.of_num _ _ hj) rfl
theorem Pm_six {r : RV} (h : checkS r = 0) : Pm r 6 = r := by
  have e : Pm r 6 = nr r.num r.d := nr_congr (fun j hj => if_pos hj)
  rw [e]
  unfold nr
  rw [RV.of_self]
  exact mkR_self (checkS_ok h).2.2
theorem Pm_skip {r : RV} {i : Nat} (h : r.num i = 0) : Pm r (i + 1) = Pm r i := nr_congr fun j hj => by
  by_cases h1 : j < i
  · rw [if_pos h1, if_pos (by omega)]
  · by_cases h2 : j = i
    · subst h2; rw [if_pos (by omega), if_neg h1, h]
    · rw [if_neg h1, if_neg (by omega)]
theorem Pm_check {r : RV} (h : checkS r = 0) (i : Nat) : checkS (Pm r i) = 0 := by
  obtain ⟨h1, h2, _⟩ := checkS_ok h
  refine nr_chk h1.1 h1.2 (fun j hj => ?_)
  split
  · exact h2 j hj
  · exact ⟨by decide, by decide⟩
theorem Pm_step {r : RV} (h : checkS r = 0) {i : Nat} (hi : i < 6) : joinS (Pm r i) (unR i ((r.num i).tdiv (gR (r.num i) r.d : Nat)) (r.d.tdiv (gR (r.num i) r.d : Nat))) 1 = (Pm r (i + 1), 0) := by
  obtain ⟨h1, h2, _⟩ := checkS_ok h
  have hu := un_check hi (h2 i hi) h1
  have hP := Pm_check h i
  have e0 : firstE (checkS (Pm r i)) (checkS (unR i ((r.num i).tdiv (gR (r.num i) r.d : Nat)) (r.d.tdiv (gR (r.num i) r.d : Nat)))) = 0 := by
    unfold firstE; rw [if_pos hP, hu]
  unfold joinS
  rw [if_pos e0]
  have hg := joinR_good hP hu (.inl rfl)
  obtain ⟨g, hg0, e1, e2⟩ := nr_g (fun t => if t < i then r.num t else 0) h1.1
  have hk := gR_k (r.num i) r.d
  have hd := gR_d (r.num i) r.d
  have e : mkR (joinR (Pm r i) (unR i ((r.num i).tdiv (gR (r.num i) r.d : Nat)) (r.d.tdiv (gR (r.num i) r.d : Nat))) 1) = Pm r (i + 1) := by
    refine mkR_cross hg.1 h1.1 (fun j hj => ?_)
    have n1 : (joinR (Pm r i) (unR i ((r.num i).tdiv (gR (r.num i) r.d : Nat)) (r.d.tdiv (gR (r.num i) r.d : Nat))) 1).num j = (Pm r i).num j * (r.d.tdiv (gR (r.num i) r.d : Nat)) + 1 * (if j = i then (r.num i).tdiv (gR (r.num i) r.d : Nat) else 0) * (Pm r i).d := by
      unfold joinR unR
      rw [RV.of_num _ _ hj, RV.of_num _ _ hj]; rfl
    have d1 : (joinR (Pm r i) (unR i ((r.num i).tdiv (gR (r.num i) r.d : Nat)) (r.d.tdiv (gR (r.num i) r.d : Nat))) 1).d = (Pm r i).d * (r.d.tdiv (gR (r.num i) r.d : Nat)) := rfl
    rw [n1, d1, RV.of_num _ _ hj]
    have e3 := e2 j hj
    change (Pm r i).num j * (g : Int) = _ at e3
    change (Pm r i).d * (g : Int) = _ at e1
    show _ * r.d = _
    generalize (Pm r i).num j = a at *
    generalize (Pm r i).d = b at *
    generalize (gR (r.num i) r.d) = m at *
    generalize r.d.tdiv (m : Int) = c at *
    generalize hx : (r.num i).tdiv (m : Int) = x at *
    by_cases hji : j = i
    · subst hji
      rw [if_neg (by omega)] at e3
      rw [if_pos rfl, if_pos (by omega)]
      have ha : a = 0 := by
        rcases Int.mul_eq_zero.1 e3 with h | h
        · exact h
        · omega
      subst ha
      generalize r.num j = n at *
      generalize r.d = D at *
      subst hk
      grind
    · rw [if_neg hji]
      have e4 : (if j < i + 1 then r.num j else 0) = a * (g : Int) := by
        rw [e3]
        by_cases h5 : j < i
        · rw [if_pos h5, if_pos (by omega)]
        · rw [if_neg h5, if_neg (by omega)]
      rw [e4]
      generalize r.d = D at *
      grind
  have hc : checkS (mkR (joinR (Pm r i) (unR i ((r.num i).tdiv (gR (r.num i) r.d : Nat)) (r.d.tdiv (gR (r.num i) r.d : Nat))) 1)) = 0 := by rw [e]; exact Pm_check h _
  have hm := (madeS_check _ hg.1).1 hc
  rw [e] at hm
  exact hm
/-- the j-th term -/
theorem term_at (r : RV) : ∀ m j, j < (termsN r m).length → ∃ i, i < m ∧ r.num i ≠ 0 ∧ (termsN r i).length = j ∧ (termsN r m)[j]? = some (prime i, r.num i)
  | 0, j, h => absurd h (Nat.not_lt_zero _)
  | m+1, j, h => by
    rw [termsN] at h ⊢
    by_cases h0 : r.num m = 0
    · rw [if_pos h0] at h ⊢
      obtain ⟨i, a, b, c, d⟩ := term_at r m j h
      exact ⟨i, by omega, b, c, d⟩
    · rw [if_neg h0] at h ⊢
      rw [List.length_append, List.length_singleton] at h
      rcases Nat.lt_or_ge j (termsN r m).length with h1 | h1
      · obtain ⟨i, a, b, c, d⟩ := term_at r m j h1
        exact ⟨i, by omega, b, c, by rw [List.getElem?_append_left h1]; exact d⟩
      · have e : j = (termsN r m).length := by omega
        subst e
        exact ⟨m, by omega, h0, rfl, by rw [List.getElem?_append_right (Nat.le_refl _), Nat.sub_self]; rfl⟩
theorem terms_mono (r : RV) {i : Nat} : ∀ {m}, i ≤ m → (termsN r i).length ≤ (termsN r m).length
  | 0, h => by rw [Nat.le_zero.1 h]; exact Nat.le_refl _
  | m+1, h => by
    rcases Nat.lt_or_ge i (m + 1) with h1 | h1
    · have := terms_mono r (show i ≤ m by omega)
      rw [show termsN r (m + 1) = if r.num m = 0 then termsN r m else termsN r m ++ [(prime m, r.num m)] from rfl]
      split
      · exact this
      · rw [List.length_append]; omega
    · rw [show i = m + 1 by omega]; exact Nat.le_refl _
theorem terms_same {r : RV} {i : Nat} : ∀ {m}, i ≤ m → (termsN r i).length = (termsN r m).length → Pm r i = Pm r m
  | 0, h, _ => by rw [Nat.le_zero.1 h]
  | m+1, h, hl => by
    rcases Nat.lt_or_ge i (m + 1) with h1 | h1
    · have h2 := terms_mono r (show i ≤ m by omega)
      rw [show termsN r (m + 1) = if r.num m = 0 then termsN r m else termsN r m ++ [(prime m, r.num m)] from rfl] at hl
      by_cases h0 : r.num m = 0
      · rw [if_pos h0] at hl
        rw [Pm_skip h0]
        exact terms_same (by omega) hl
      · rw [if_neg h0, List.length_append, List.length_singleton] at hl
        omega
    · rw [show i = m + 1 by omega]
/-- the product behind j words -/
def At (r : RV) (j : Nat) (q : RV) : Prop := ∃ i, i ≤ 6 ∧ (termsN r i).length = j ∧ q = Pm r i
theorem At.zero {r : RV} (h : checkS r = 0) : At r 0 oneR := ⟨0, by decide, rfl, (Pm_zero h).symm⟩
theorem At.last {r q : RV} (h : checkS r = 0) (hq : At r (termsN r 6).length q) : q = r := by
  obtain ⟨i, h1, h2, h3⟩ := hq
  rw [h3, terms_same h1 h2, Pm_six h]
theorem At.step {r q : RV} {j : Nat} (h : checkS r = 0) (hq : At r j q) (hj : j < (termsN r 6).length) : ∃ i, i < 6 ∧ (wdsR r)[j]? = some (wrR (prime i) (r.num i) r.d) ∧ r.num i ≠ 0 ∧ (checkS q = 0 ∧ inR (r.num i) ∧ (1 ≤ r.d ∧ r.d ≤ 1000)) ∧ ∃ q', joinS q (unR i ((r.num i).tdiv (gR (r.num i) r.d : Nat)) (r.d.tdiv (gR (r.num i) r.d : Nat))) 1 = (q', 0) ∧ At r (j + 1) q' := by
  obtain ⟨a, h1, h2, h3⟩ := hq
  obtain ⟨i, i1, i2, i3, i4⟩ := term_at r 6 j hj
  obtain ⟨c1, c2, _⟩ := checkS_ok h
  have hqi : q = Pm r i := by
    rw [h3]
    rcases Nat.le_total a i with hai | hai
    · exact terms_same hai (by omega)
    · exact (terms_same hai (by omega)).symm
  refine ⟨i, i1, ?_, i2, ⟨by rw [hqi]; exact Pm_check h i, c2 i i1, c1⟩, Pm r (i + 1), ?_, i + 1, by omega, ?_, rfl⟩
  · unfold wdsR; rw [List.getElem?_map, i4]; rfl
  · rw [hqi]; exact Pm_step h i1
  · rw [show termsN r (i + 1) = if r.num i = 0 then termsN r i else termsN r i ++ [(prime i, r.num i)] from rfl, if_neg i2, List.length_append, i3]; rfl
/-- the text tells the ratio -/
theorem prime_inj {i j : Nat} (hi : i < 6) (hj : j < 6) (h : prime i = prime j) : i = j := by
  rcases (show i = 0 ∨ i = 1 ∨ i = 2 ∨ i = 3 ∨ i = 4 ∨ i = 5 by omega) with rfl | rfl | rfl | rfl | rfl | rfl <;>
  rcases (show j = 0 ∨ j = 1 ∨ j = 2 ∨ j = 3 ∨ j = 4 ∨ j = 5 by omega) with rfl | rfl | rfl | rfl | rfl | rfl <;>
  first | rfl | exact absurd h (by decide)
theorem prime_le {i : Nat} (hi : i < 6) : prime i ≤ 13 := (prime_two hi).2
theorem txR_inj {r s : RV} (hr : checkS r = 0) (hs : checkS s = 0) (h : txR r = txR s) : r = s := by
  have hw : wdsR r = wdsR s := by rw [← wof_tx, ← wof_tx, h]
  have hl : (termsN r 6).length = (termsN s 6).length := by rw [← wds_len, ← wds_len, hw]
  have key : ∀ j, j ≤ (termsN r 6).length → ∃ q, At r j q ∧ At s j q := by
    intro j
    induction j with
    | zero => intro _; exact ⟨oneR, At.zero hr, At.zero hs⟩
    | succ j ih =>
      intro hj
      obtain ⟨q, q1, q2⟩ := ih (by omega)
      obtain ⟨i, a1, a2, _, ⟨_, a4, a5⟩, q', a6, a7⟩ := q1.step hr (by omega)
      obtain ⟨k, b1, b2, _, ⟨_, b4, b5⟩, q'', b6, b7⟩ := q2.step hs (by omega)
      have e : wrR (prime i) (r.num i) r.d = wrR (prime k) (s.num k) s.d := by rw [hw, b2] at a2; injection a2 with a2; exact a2.symm
      have r1 := wr_read (prime_le a1) a4 a5
      have r2 := wr_read (prime_le b1) b4 b5
      rw [e] at r1
      have hik : i = k := prime_inj a1 b1 (by have := r1.2.1.symm.trans r2.2.1; omega)
      subst hik
      rw [← r1.2.2.1, ← r1.2.2.2, r2.2.2.1, r2.2.2.2, b6] at a6
      injection a6 with a6 _
      exact ⟨q', a7, by rw [← a6]; exact b7⟩
  obtain ⟨q, q1, q2⟩ := key _ (Nat.le_refl _)
  rw [hl] at q2
  rw [← q1.last hr, ← q2.last hs]
open Classical in
/-- what Parse returns -/
noncomputable def parR (s : ByteArray) : RV × Int := if 200 < s.size then (RVzero, 3) else if h : ∃ r : RV, checkS r = 0 ∧ txR r = s.data.toList then (h.choose, 0) else (RVzero, 6)
theorem parR_long {s : ByteArray} (h : 200 < s.size) : parR s = (RVzero, 3) := by unfold parR; rw [if_pos h]
theorem parR_hit {s : ByteArray} (h : s.size ≤ 200) {r : RV} (hc : checkS r = 0) (ht : txR r = s.data.toList) : parR s = (r, 0) := by
  have hx : ∃ r : RV, checkS r = 0 ∧ txR r = s.data.toList := ⟨r, hc, ht⟩
  unfold parR
  rw [if_neg (by omega), dif_pos hx]
  have h2 := hx.choose_spec
  rw [txR_inj h2.1 hc (h2.2.trans ht.symm)]
theorem parR_miss {s : ByteArray} (h : s.size ≤ 200) (hx : ¬ ∃ r : RV, checkS r = 0 ∧ txR r = s.data.toList) : parR s = (RVzero, 6) := by
  unfold parR
  rw [if_neg (by omega), dif_neg hx]
theorem dec_len : ∀ (k u : Nat), u < 10 ^ k → (Lib.decDigits u).length ≤ max k 1
  | 0, u, h => by
    rw [decDigits_lt (by omega)]; simp
  | k+1, u, h => by
    by_cases h1 : u < 10
    · rw [decDigits_lt h1]; simp
    · rw [decDigits_ge h1, List.length_append]
      have := dec_len k (u / 10) (by rw [Nat.pow_succ] at h; omega)
      have h2 : 0 < k := by
        rcases k with _ | k
        · simp at h; omega
        · omega
      simp only [List.length_cons, List.length_nil]
      omega
theorem xitoa_len {z : Int} {k : Nat} (hk : 1 ≤ k) (h : z.natAbs < 10 ^ k) : (Lib.itoa z).length ≤ k + 1 := by
  unfold Lib.itoa
  split
  · have := dec_len k _ h
    rw [List.length_cons]; omega
  · have := dec_len k z.toNat (by have e : z.toNat = z.natAbs := by omega
                                  rw [e]; exact h)
    omega
theorem wr_len {p : Nat} {k d : Int} (hp : p ≤ 13) (hk : inR k) (hd : 1 ≤ d ∧ d ≤ 1000) : (wrR p k d).length ≤ 17 := by
  have hb := gR_bd hd.1 (k := k)
  have hk1 := hk.1
  have hk2 := hk.2
  have l1 := xitoa_len (z := (p : Int)) (k := 2) (by decide) (by show _ < 100; omega)
  have l2 := xitoa_len (z := k.tdiv (gR k d : Nat)) (k := 6) (by decide) (by show _ < 1000000; omega)
  have l3 := xitoa_len (z := d.tdiv (gR k d : Nat)) (k := 4) (by decide) (by show _ < 10000; omega)
  unfold wrR exR
  rw [List.length_append, List.length_cons, List.length_append]
  split
  · rw [List.length_cons]; omega
  · rw [List.length_nil]; omega
theorem joinX_le {n : Nat} : ∀ (l : List (List UInt8)), (∀ x ∈ l, x.length ≤ n) → (Lib.join l [32]).length ≤ l.length * (n + 1)
  | [], _ => by simp [Lib.join]
  | [a], h => by
    rw [Lib.join_one]
    have := h a (by simp)
    simp; omega
  | a :: b :: l, h => by
    have e : Lib.join (a :: b :: l) [32] = a ++ 32 :: Lib.join (b :: l) [32] := by simp [Lib.join]
    have h1 := joinX_le (b :: l) (fun x hx => h x (List.mem_cons_of_mem _ hx))
    have h2 := h a (by simp)
    rw [e, List.length_append, List.length_cons]
    rw [List.length_cons, Nat.succ_mul]
    omega
theorem txR_len {r : RV} (h : checkS r = 0) : (txR r).length ≤ 108 := by
  obtain ⟨c1, c2, _⟩ := checkS_ok h
  unfold txR
  split
  · decide
  · have hl := termsN_len r 6
    have := joinX_le (n := 17) (wdsR r) (fun x hx => by
      obtain ⟨y, hy, rfl⟩ := List.mem_map.1 hx
      obtain ⟨j, hj, e⟩ := List.getElem_of_mem hy
      obtain ⟨i, i1, i2, i3, i4⟩ := term_at r 6 j hj
      rw [List.getElem?_eq_getElem hj, e] at i4
      injection i4 with i4
      rw [i4]
      exact wr_len (prime_le i1) (c2 i i1) c1)
    rw [wds_len] at this
    omega
end Go.Proofs.YtalodfjplegibaaGreatDoor
