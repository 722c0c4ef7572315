/- Plain facts on limbs of 15 bits (chapter 04's reference), the lowest first. Printed from NatL (the same facts of limbs of 32 bits). No program in sight. The reference of chapter 04: whole numbers as limbs of 15 bits in memory; plain facts on them. The reference of chapter 04: trim, limbs, cmp. The reference of chapter 04: carry, add, mul. The reference of chapter 04: add, mul. The reference of chapter 04: mul. The reference of chapter 04: shift, square, halve. -/
import Derived.Test.YtafadpaljanghaaGreatDoorNatL
import Derived.Test.YtafadpaljanghaaGreatDoorBase
namespace Go.Proofs.YtafadpaljanghaaGreatDoor.C
set_option linter.unusedSimpArgs false
set_option linter.unusedVariables false
def LB : Nat := 32768
theorem LB_pos : 0 < LB := by decide
theorem LB_eq : LB = 32768 := rfl
/-- the number that limbs say -/
def valOf : List Nat → Nat
  | [] => 0
  | x :: r => x + LB * valOf r
/-- the limbs of a number, without a last 0 -/
def limbs (n : Nat) : List Nat := if _h : n = 0 then [] else n % LB :: limbs (n / LB)
termination_by n
decreasing_by exact Nat.div_lt_self (by omega) (by decide)
/-- without limbs 0 at the end -/
def trimN (l : List Nat) : List Nat := (l.reverse.dropWhile (· == 0)).reverse

theorem limbs_zero : limbs 0 = [] := by rw [limbs]; simp
theorem limbs_pos {n : Nat} (h : n ≠ 0) : limbs n = n % LB :: limbs (n / LB) := by rw [limbs]; simp [h]
theorem valOf_limbs (n : Nat) : valOf (limbs n) = n := by
  induction n using Nat.strongRecOn with
  | _ n ih =>
    by_cases h : n = 0
    · subst h; rw [limbs_zero]; rfl
    · rw [limbs_pos h]; show n % LB + LB * valOf (limbs (n / LB)) = n
      rw [ih _ (Nat.div_lt_self (by omega) (by decide))]; exact Nat.mod_add_div n LB
theorem limbs_lt (n : Nat) : ∀ x ∈ limbs n, x < LB := by
  induction n using Nat.strongRecOn with
  | _ n ih =>
    by_cases h : n = 0
    · subst h; rw [limbs_zero]; simp
    · rw [limbs_pos h]; intro x hx
      rcases List.mem_cons.1 hx with rfl | hx
      · exact Nat.mod_lt _ LB_pos
      · exact ih _ (Nat.div_lt_self (by omega) (by decide)) x hx
theorem valOf_append (a b : List Nat) : valOf (a ++ b) = valOf a + LB ^ a.length * valOf b := by
  induction a with
  | nil => simp [valOf]
  | cons x r ih => simp only [List.cons_append, valOf, ih, List.length_cons, Nat.pow_succ, Nat.mul_add]; rw [Nat.mul_comm (LB ^ r.length) LB, Nat.mul_assoc]; omega
theorem valOf_snoc (a : List Nat) (x : Nat) : valOf (a ++ [x]) = valOf a + LB ^ a.length * x := by rw [valOf_append]; simp [valOf]
theorem valOf_lt (l : List Nat) (h : ∀ x ∈ l, x < LB) : valOf l < LB ^ l.length := by
  induction l with
  | nil => simp [valOf]
  | cons x r ih =>
    have h1 := ih (fun y hy => h y (List.mem_cons_of_mem _ hy))
    have h2 := h x (List.mem_cons_self ..)
    simp only [valOf, List.length_cons, Nat.pow_succ]
    have : LB * (valOf r + 1) ≤ LB * LB ^ r.length := Nat.mul_le_mul_left _ h1
    rw [Nat.mul_comm (LB ^ r.length)]
    rw [Nat.mul_add] at this; omega
theorem valOf_cons_mod (x : Nat) (r : List Nat) (h : x < LB) : (x + LB * valOf r) % LB = x := by rw [Nat.add_mul_mod_self_left, Nat.mod_eq_of_lt h]
theorem valOf_cons_div (x : Nat) (r : List Nat) (h : x < LB) : (x + LB * valOf r) / LB = valOf r := by rw [Nat.add_mul_div_left _ _ LB_pos, Nat.div_eq_of_lt h, Nat.zero_add]

theorem trimN_nil : trimN [] = [] := rfl
theorem trimN_snoc0 (l : List Nat) : trimN (l ++ [0]) = trimN l := by simp [trimN]
theorem trimN_snoc (l : List Nat) (x : Nat) (h : x ≠ 0) : trimN (l ++ [x]) = l ++ [x] := by simp [trimN, h]
theorem take_trim0 (l : List Nat) (n : Nat) (hn : n < l.length) (h : l[n]?.getD 0 = 0) : trimN (l.take (n+1)) = trimN (l.take n) := by
  rw [List.take_succ_eq_append_getElem hn]
  have : l[n] = 0 := by simpa [hn] using h
  rw [this, trimN_snoc0]
theorem take_trim1 (l : List Nat) (n : Nat) (hn : n < l.length) (h : l[n]?.getD 0 ≠ 0) : trimN (l.take (n+1)) = l.take (n+1) := by
  rw [List.take_succ_eq_append_getElem hn]
  have : l[n] ≠ 0 := by simpa [hn] using h
  rw [trimN_snoc _ _ this]
theorem rev_ind {α : Type} {P : List α → Prop} (h0 : P []) (h1 : ∀ l x, P l → P (l ++ [x])) (l : List α) : P l := by
  have key : ∀ r : List α, P r.reverse := by
    intro r
    induction r with
    | nil => exact h0
    | cons x r ih => rw [List.reverse_cons]; exact h1 _ _ ih
  have := key l.reverse
  rwa [List.reverse_reverse] at this
/-- a list of limbs is that of its number if its last one is not 0 -/
def Norm (l : List Nat) : Prop := (∀ x ∈ l, x < LB) ∧ l.getLast? ≠ some 0
theorem limbs_norm (n : Nat) : Norm (limbs n) := by
  refine ⟨limbs_lt n, ?_⟩
  induction n using Nat.strongRecOn with
  | _ n ih =>
    by_cases h : n = 0
    · subst h; rw [limbs_zero]; simp
    · rw [limbs_pos h]
      by_cases h2 : n / LB = 0
      · rw [h2, limbs_zero]
        have : n < LB := by
          rcases Nat.lt_or_ge n LB with h3 | h3
          · exact h3
          · have := Nat.div_pos h3 LB_pos; omega
        rw [Nat.mod_eq_of_lt this]; simp [h]
      · have := ih (n / LB) (Nat.div_lt_self (by omega) (by decide))
        rw [limbs_pos h2] at this ⊢
        simpa using this
theorem norm_limbs {l : List Nat} (h : Norm l) : l = limbs (valOf l) := by
  obtain ⟨h1, h2⟩ := h
  induction l with
  | nil => simp [valOf, limbs_zero]
  | cons x r ih =>
    have hx := h1 x (List.mem_cons_self ..)
    have hr : ∀ y ∈ r, y < LB := fun y hy => h1 y (List.mem_cons_of_mem _ hy)
    have hl : r.getLast? ≠ some 0 := by
      cases r with
      | nil => simp
      | cons y s => simpa using h2
    have e := ih hr hl
    have hne : x + LB * valOf r ≠ 0 := by
      intro h0
      have hx0 : x = 0 := by omega
      have hv : valOf r = 0 := by
        rcases Nat.eq_zero_or_pos (valOf r) with h3 | h3
        · exact h3
        · have := Nat.mul_pos LB_pos h3; omega
      rw [hv, limbs_zero] at e
      subst e; subst hx0; simp at h2
    show x :: r = limbs (x + LB * valOf r)
    rw [limbs_pos hne, valOf_cons_mod _ _ hx, valOf_cons_div _ _ hx, ← e]
theorem trimN_val (l : List Nat) : valOf (trimN l) = valOf l := by
  refine rev_ind (P := fun l => valOf (trimN l) = valOf l) rfl (fun l x ih => ?_) l
  · by_cases h : x = 0
    · subst h; rw [trimN_snoc0, ih, valOf_snoc]; simp
    · rw [trimN_snoc _ _ h]
theorem trimN_mem (l : List Nat) : ∀ x ∈ trimN l, x ∈ l := by
  intro x hx
  have : x ∈ l.reverse.dropWhile (· == 0) := by simpa [trimN] using hx
  simpa using (List.dropWhile_sublist _).mem this
theorem trimN_last (l : List Nat) : (trimN l).getLast? ≠ some 0 := by
  refine rev_ind (P := fun l => (trimN l).getLast? ≠ some 0) (by simp [trimN]) (fun l x ih => ?_) l
  · by_cases h : x = 0
    · subst h; rw [trimN_snoc0]; exact ih
    · rw [trimN_snoc _ _ h]; simp [h]
theorem trimN_limbs {l : List Nat} (h : ∀ x ∈ l, x < LB) : trimN l = limbs (valOf l) := by
  have := norm_limbs (l := trimN l) ⟨fun x hx => h x (trimN_mem l x hx), trimN_last l⟩
  rw [trimN_val] at this; exact this
theorem limbs_len_le {n k : Nat} (h : n < LB ^ k) : (limbs n).length ≤ k := by
  induction k generalizing n with
  | zero => have : n = 0 := by simpa using h
            subst this; simp [limbs_zero]
  | succ k ih =>
    by_cases h0 : n = 0
    · subst h0; simp [limbs_zero]
    · rw [limbs_pos h0, List.length_cons]
      have := ih (n := n / LB) (Nat.div_lt_of_lt_mul (by rw [Nat.pow_succ, Nat.mul_comm] at h; exact h))
      omega
theorem lt_limbs_len (n : Nat) : n < LB ^ (limbs n).length := by
  have := valOf_lt (limbs n) (limbs_lt n); rwa [valOf_limbs] at this
theorem limbs_len_iff {n k : Nat} : (limbs n).length ≤ k ↔ n < LB ^ k :=
  ⟨fun h => Nat.lt_of_lt_of_le (lt_limbs_len n) (Nat.pow_le_pow_right LB_pos h), limbs_len_le⟩
theorem limbs_nil_iff {n : Nat} : limbs n = [] ↔ n = 0 := by
  constructor
  · intro h; have := valOf_limbs n; rw [h] at this; exact this.symm
  · rintro rfl; exact limbs_zero
theorem limbs_inj {a b : Nat} (h : limbs a = limbs b) : a = b := by rw [← valOf_limbs a, h, valOf_limbs]
theorem len_pos_iff {n : Nat} : 0 < (limbs n).length ↔ n ≠ 0 := by
  constructor
  · intro h h0; subst h0; simp [limbs_zero] at h
  · intro h; rw [limbs_pos h]; simp
/-- the number is at least the weight of its highest limb -/
theorem limbs_ge {n k : Nat} (h : k < (limbs n).length) : LB ^ k ≤ n := by
  rcases Nat.lt_or_ge n (LB ^ k) with h1 | h1
  · have := limbs_len_le h1; omega
  · exact h1
theorem valOf_split (l : List Nat) (j : Nat) (hj : j < l.length) : valOf l = valOf (l.take j) + LB ^ j * (l[j]?.getD 0 + LB * valOf (l.drop (j+1))) := by
  have e : l = l.take j ++ (l[j] :: l.drop (j+1)) := by rw [← List.drop_eq_getElem_cons hj, List.take_append_drop]
  have h1 : (l.take j).length = j := by simp; omega
  have e2 := congrArg valOf e
  rw [valOf_append, h1] at e2
  rw [e2, List.getElem?_eq_getElem hj]; rfl
theorem valOf_lt_of {la lb : List Nat} {j : Nat} (hl : la.length = lb.length) (hj : j < la.length) (ha : ∀ x ∈ la, x < LB)
    (hd : la.drop (j+1) = lb.drop (j+1)) (hlt : la[j]?.getD 0 < lb[j]?.getD 0) : valOf la < valOf lb := by
  rw [valOf_split la j hj, valOf_split lb j (by omega), hd]
  have h1 : valOf (la.take j) < LB ^ (la.take j).length := valOf_lt _ (fun x hx => ha x (List.mem_of_mem_take hx))
  have h2 : (la.take j).length = j := by simp; omega
  rw [h2] at h1
  have h3 : LB ^ j * (la[j]?.getD 0 + LB * valOf (lb.drop (j+1)) + 1) ≤ LB ^ j * (lb[j]?.getD 0 + LB * valOf (lb.drop (j+1))) := Nat.mul_le_mul_left _ (by omega)
  rw [Nat.mul_add _ _ 1] at h3
  omega
theorem drop_step {la lb : List Nat} {j : Nat} (hl : la.length = lb.length) (hj : j < la.length) (hd : la.drop (j+1) = lb.drop (j+1)) (he : la[j]?.getD 0 = lb[j]?.getD 0) : la.drop j = lb.drop j := by
  rw [List.drop_eq_getElem_cons hj, List.drop_eq_getElem_cons (show j < lb.length by omega), hd]
  congr 1
  rw [List.getElem?_eq_getElem hj, List.getElem?_eq_getElem (show j < lb.length by omega)] at he
  simpa using he
theorem limbs_len_lt {a b : Nat} (h : (limbs a).length < (limbs b).length) : a < b := by
  have h1 := lt_limbs_len a
  have h2 := limbs_ge h
  omega
theorem valOf_set (l : List Nat) (j v : Nat) (hj : j < l.length) : valOf (l.set j v) + LB ^ j * l[j]?.getD 0 = valOf l + LB ^ j * v := by
  have h1 := valOf_split l j hj
  have h2 := valOf_split (l.set j v) j (by simpa using hj)
  have e1 : (l.set j v).take j = l.take j := by rw [List.take_set_of_le (Nat.le_refl _)]
  have e2 : (l.set j v).drop (j+1) = l.drop (j+1) := by rw [List.drop_set_of_lt (by omega)]
  have e3 : (l.set j v)[j]?.getD 0 = v := by simp [hj]
  rw [e1, e2, e3] at h2
  rw [h1, h2, Nat.mul_add, Nat.mul_add]
  omega
theorem valOf_zeros (n : Nat) : valOf (List.replicate n 0) = 0 := by
  induction n with
  | zero => rfl
  | succ n ih => rw [List.replicate_succ]; simp [valOf, ih]
theorem valOf_take_succ (l : List Nat) (i : Nat) (hi : i < l.length) : valOf (l.take (i+1)) = valOf (l.take i) + LB ^ i * l[i]?.getD 0 := by
  rw [List.take_succ_eq_append_getElem hi, valOf_snoc, List.getElem?_eq_getElem hi]
  have : (l.take i).length = i := by simp; omega
  rw [this]; rfl
theorem LB_two : LB = 2 ^ 15 := by decide
theorem LB_pow (q : Nat) : LB ^ q = 2 ^ (15 * q) := by rw [LB_two, ← Nat.pow_mul]
theorem valOf_drop (l : List Nat) (h : ∀ x ∈ l, x < LB) (q : Nat) : valOf (l.drop q) = valOf l / LB ^ q := by
  induction q generalizing l with
  | zero => simp
  | succ q ih =>
    cases l with
    | nil => simp [valOf]
    | cons x t =>
      have hx := h x (List.mem_cons_self ..)
      rw [List.drop_succ_cons, ih t (fun y hy => h y (List.mem_cons_of_mem _ hy))]
      show _ = (x + LB * valOf t) / LB ^ (q+1)
      rw [Nat.pow_succ, Nat.mul_comm (LB ^ q), ← Nat.div_div_eq_div_mul, valOf_cons_div _ _ hx]
theorem take_snoc_get {l : List Nat} {i x : Nat} (h : l[i]? = some x) : l.take (i+1) = l.take i ++ [x] := by
  have hi : i < l.length := by
    rcases Nat.lt_or_ge i l.length with h1 | h1
    · exact h1
    · rw [List.getElem?_eq_none h1] at h; cases h
  rw [List.getElem?_eq_getElem hi] at h
  cases h
  rw [List.take_succ_eq_append_getElem hi]
end Go.Proofs.YtafadpaljanghaaGreatDoor.C
namespace Go.Proofs.YtafadpaljanghaaGreatDoor
set_option linter.unusedSimpArgs false
open Go.RowKit
set_option linter.unusedVariables false

def cv (x : Nat) : Value := .int .i64 (x : Int)
/-- a slice that reads as whole numbers -/
def V (w : World) (A : Option Addr) (n : Nat) (l : List Nat) : Prop := Reads w w.heap.size 1 A n (l.map cv)
section
variable {w w' : World} {A : Option Addr} {n : Nat} {l : List Nat}
theorem V.len (h : V w A n l) : l.length = n := by simpa using h.1
theorem V.cell (h : V w A n l) {k : Nat} (hk : k < n) : ∃ ad, A = some ad ∧ ad.block < w.heap.size ∧ w.cell? (ad.add k) = some (.int .i64 (l[k]?.getD 0 : Nat)) := by
  obtain ⟨ad, u, rfl, hb, hx, hc⟩ := h.at_ hk
  refine ⟨ad, rfl, hb, hc.trans ?_⟩
  rw [← hx]
  have : k < l.length := by have := h.len; omega
  simp [cv, this]
theorem V.below (h : V w A n l) (hb : Below w.heap.size w w') : V w' A n l := (Reads.below h hb).more hb.size
theorem V.drewN (h : V w A n l) (k : Nat) : V (w.drewN k) A n l := Reads.drewN h k
theorem V.take (h : V w A n l) {k : Nat} (hk : k ≤ n) : V w A k (l.take k) := by
  have hl := h.len
  refine ⟨by simp; omega, fun h0 => ?_⟩
  obtain ⟨ad, e, hb, hc⟩ := h.2 (by omega)
  refine ⟨ad, e, hb, fun j u hu => hc j u ?_⟩
  rw [List.map_take] at hu
  rw [List.getElem?_take] at hu
  split at hu
  · exact hu
  · cases hu
theorem V.cut (h : V w A n l) {k cap : Nat} (hk : k ≤ n) (hc : n ≤ cap) : V w (if cap = k then A else A.map (·.add k)) (n - k) (l.drop k) := by
  have := Reads.cut h hk hc
  rw [Nat.mul_one, ← List.map_drop] at this
  exact this
theorem V.nil : V w none 0 [] := Reads.none_
theorem V.zero (A : Option Addr) : V w A 0 [] := ⟨by simp, fun h => absurd h (by omega)⟩
theorem V.of_own {base : Nat} {e : TypeId} {c : Nat} (h : w.ownsRow base e 1 (.slice A n c) n (l.map cv)) : V w A n l := Reads.of_own h
theorem V.of_row {g N : Nat} {t : TypeId} {f : Nat → Value} (h : w.rowIs g t N f) (hn : n ≤ N) (hl : l.length = n) (hf : ∀ j, j < n → f j = cv (l[j]?.getD 0)) : V w (some ⟨g, 0, none⟩) n l := by
  refine ⟨by simp [hl], fun _ => ⟨_, rfl, h.lt, fun j u hu => ?_⟩⟩
  have hj : j < l.length := by
    rcases Nat.lt_or_ge j l.length with h1 | h1
    · exact h1
    · rw [List.getElem?_eq_none (by simpa using h1)] at hu; cases hu
  have := h.cell (i := j) (by omega)
  rw [List.getElem?_map, List.getElem?_eq_getElem hj] at hu
  simp at hu; subst hu
  have e : (Addr.add ⟨g, 0, none⟩ j) = ⟨g, j, none⟩ := by unfold Addr.add; split <;> simp_all
  rw [e, this, hf j (by omega), List.getElem?_eq_getElem hj]; rfl
end
/-- a slice that holds a number -/
def LN (w : World) (v : Value) (x : Nat) : Prop := ∃ A c, v = .slice A (C.limbs x).length c ∧ (C.limbs x).length ≤ c ∧ c ≤ maxLen ∧ V w A (C.limbs x).length (C.limbs x)
theorem LN.below {w w' : World} {v : Value} {x : Nat} (h : LN w v x) (hb : Below w.heap.size w w') : LN w' v x := by
  obtain ⟨A, c, h1, h2, h3, h4⟩ := h
  exact ⟨A, c, h1, h2, h3, h4.below hb⟩
theorem LN.nil (w : World) : LN w (.slice none 0 0) 0 := by
  unfold LN
  rw [C.limbs_zero]
  exact ⟨none, 0, rfl, Nat.le_refl _, by unfold maxLen; omega, V.nil⟩
theorem LN.own {w : World} {base : Nat} {e : TypeId} {v : Value} {n x : Nat} (h : w.ownsRow base e 1 v n ((C.limbs x).map cv)) : LN w v x := by
  have hn : (C.limbs x).length = n := by simpa using h.1
  subst hn
  have h' := h
  rcases h.2 with ⟨rfl, h0⟩ | ⟨g, cap, cur, rfl, _, _, h1, h2, _⟩
  · rw [h0] at h'
    exact ⟨none, 0, by rw [h0], by omega, by unfold maxLen; omega, by rw [h0]; exact V.of_own h'⟩
  · exact ⟨_, cap, rfl, h1, h2, V.of_own h⟩
/-- the ways of a row made by make -/
theorem own_of_row {w : World} {base g n : Nat} {t : TypeId} {f : Nat → Value} (h : w.rowIs g t n f) (hb : base ≤ g) (hn : n ≤ maxLen) (l : List Nat) (hl : l.length = n) (hf : ∀ j, j < n → f j = cv (l[j]?.getD 0)) :
    w.ownsRow base t 1 (.slice (some ⟨g, 0, none⟩) n n) n (l.map cv) := by
  obtain ⟨c, hc, hs, hi⟩ := h
  refine ⟨by simp [hl], .inr ⟨g, n, c, rfl, hb, hc, Nat.le_refl _, hn, by omega, ?_⟩⟩
  apply List.ext_getElem?
  intro j
  rw [Nat.mul_one]
  rcases Nat.lt_or_ge j n with h1 | h1
  · rw [List.getElem?_take, if_pos h1, Array.getElem?_toList, hi j h1, hf j h1, List.getElem?_map, List.getElem?_eq_getElem (by omega)]
    rfl
  · rw [List.getElem?_eq_none (by simp; omega), List.getElem?_eq_none (by simp; omega)]
theorem ret_num {k : IntKind} {a b : Int} (h : a = b) : Value.int k a = .int k b := by rw [h]
theorem infoI : (Tryz.prog.info? 2).map (fun i => (i.zero, i.size, i.bytes)) = some (some (.int .i64 0), 1, 8) := by kernel_rfl
theorem V_one (w : World) (x : Nat) (t : TypeId) : V (w.alloc (.cells #[.int .i64 (x : Int)] t)) (some ⟨w.heap.size, 0, none⟩) 1 [x] := by
  refine V.of_row (World.rowIs_alloc w #[.int .i64 (x : Int)] t (fun _ => .int .i64 (x : Int)) (fun i hi => ?_)) (Nat.le_refl _) rfl (fun j hj => ?_)
  · simp at hi; subst hi; rfl
  · obtain rfl : j = 0 := by simp at hj; omega
    rfl
theorem one_cv (r : Nat) : ∀ u ∈ [r].map cv, u.oneCell' = true := by intro u hu; simp [cv] at hu; subst hu; rfl
theorem all_cv (l : List Nat) : ∀ u ∈ l.map cv, u.oneCell' = true := by intro u hu; obtain ⟨x, _, rfl⟩ := List.mem_map.1 hu; rfl
theorem C.all_snoc {o : List Nat} {r : Nat} (h : ∀ x ∈ o, x < C.LB) (hr : r < C.LB) : ∀ x ∈ o ++ [r], x < C.LB := by
  intro x hx
  rcases List.mem_append.1 hx with h1 | h1
  · exact h x h1
  · simp at h1; omega

/- plain facts -/
/-- a limb more of a carry under way -/
theorem carry_step {V' A x c i : Nat} (h : V' + C.LB ^ i * c = A) : (V' + C.LB ^ i * ((c + x) % C.LB)) + C.LB ^ (i+1) * ((c + x) / C.LB) = A + C.LB ^ i * x := by
  have e := Nat.mod_add_div (c + x) C.LB
  rw [Nat.pow_succ]
  generalize C.LB ^ i = P at *
  generalize (c + x) % C.LB = r at *
  generalize (c + x) / C.LB = q at *
  have : P * (r + C.LB * q) = P * (c + x) := by rw [e]
  simp only [Nat.mul_add] at this
  rw [Nat.mul_assoc]
  omega
theorem limbs_step {o : List Nat} {n x : Nat} (h : o ++ C.limbs n = C.limbs x) (h0 : n ≠ 0) : (o ++ [n % C.LB]) ++ C.limbs (n / C.LB) = C.limbs x := by
  rw [← h, C.limbs_pos h0, List.append_assoc]; rfl
end Go.Proofs.YtafadpaljanghaaGreatDoor
namespace Go.Proofs.YtafadpaljanghaaGreatDoor
set_option linter.unusedSimpArgs false
open Go.RowKit
set_option linter.unusedVariables false

set_option maxHeartbeats 400000 in
theorem r4trim_any (A : Option Addr) (n c : Nat) (l : List Nat) (w : World) (h : V w A n l) (hc : n ≤ c) (hm : c ≤ maxLen) :
    Calls Tryz.prog 113 #[.slice A n c] w fun e w' => (e = .returned (.slice A (C.trimN l).length c) ∧ (C.trimN l).length ≤ c ∧ V w A (C.trimN l).length (C.trimN l)) ∧ w = w' := by
  have hl := h.len
  unfold maxLen at hm
  have HL : Sl _ := ⟨hl⟩
  clear hl
  go_enter Tryz.func113, Tryz.ntmps113
  go_wp2_with fail
  go_loop [0] (fun v => ∃ k : Nat, k ≤ n ∧ v = .slice A k c ∧ C.trimN (l.take k) = C.trimN l) (fun v => match v with | .slice _ k _ => k | _ => 0)
  case atStart => exact ⟨n, Nat.le_refl _, rfl, by rw [List.take_of_length_le (by rw [HL.out]; exact Nat.le_refl _)]⟩
  case round =>
    obtain ⟨k, hk, rfl, ht⟩ := hrel
    have HT : Sl _ := ⟨ht⟩
    clear ht
    rcases k with _ | k
    · go_wp2_with fail
      go_ret
      refine ⟨⟨?_, ?_, ?_⟩, rfl⟩
      all_goals (rw [← HT.out]; simp [C.trimN_nil])
      exact V.zero _
    · obtain ⟨ad, rfl, hb, hcell⟩ := h.cell (k := k) (by omega)
      by_cases hz : l[k]?.getD 0 = 0
      · rw [hz] at hcell
        have HZ : Sl _ := ⟨hz⟩
        clear hz
        go_wp2_with fail
        exact ⟨⟨k, by omega, rfl, by rw [← HT.out, C.take_trim0 l k (by rw [HL.out]; omega) HZ.out]⟩, by simp⟩
      · have hzb : (((l[k]?.getD 0 : Nat) : Int) == 0) = false := by rw [beq_eq_false_iff_ne]; omega
        go_wp2_with fail
        go_ret
        have e1 : (l.take (k+1)) = C.trimN l := by rw [← HT.out, C.take_trim1 l k (by rw [HL.out]; omega) hz]
        have e2 : (C.trimN l).length = k + 1 := by rw [← e1, List.length_take, HL.out]; omega
        refine ⟨⟨by rw [e2]; rfl, by omega, ?_⟩, rfl⟩
        rw [e2, ← e1]
        exact h.take hk

theorem LN.step_len {o : List Nat} {n x : Nat} (h : o ++ C.limbs n = C.limbs x) (hx : x < 9223372036854775808) : o.length ≤ 5 := by
  have h1 : (C.limbs x).length ≤ 5 := C.limbs_len_le (by rw [C.LB_eq]; omega)
  rw [← h, List.length_append] at h1
  omega
set_option maxHeartbeats 800000 in
set_option maxRecDepth 100000 in
theorem r4limbs_any (x : Nat) (w : World) (hx : x < 9223372036854775808) :
    Calls Tryz.prog 86 #[.int .i64 x] w fun e w' => (∃ v, e = .returned v ∧ LN w' v x) ∧ Below w.heap.size w w' := by
  obtain ⟨i0, hi0, hz0, hz1, hz2⟩ := info_parts infoI
  have HI : Sl _ := ⟨And.intro hi0 (And.intro hz0 (And.intro hz1 hz2))⟩
  clear hi0 hz0 hz1 hz2
  go_enter Tryz.func86, Tryz.ntmps86
  go_wp2_with fail
  go_loopw [0, 3] (fun s0 s3 wr => ∃ (n : Nat) (o : List Nat), n ≤ x ∧ s0 = .int .i64 n ∧ Sl (o ++ C.limbs n = C.limbs x ∧ wr.ownsRow w.heap.size 2 1 s3 o.length (o.map cv)) ∧ Below w.heap.size w wr) (fun s0 _ _ => (RowKit.intOf s0).toNat)
  case atStart => exact ⟨x, [], Nat.le_refl _, rfl, ⟨rfl, World.ownsRow_nil _ _ _ _⟩, Below.refl _ _⟩
  case round =>
    obtain ⟨n, o, hn, rfl, HO, hB⟩ := hrel
    have hol := LN.step_len HO.out.1 hx
    rcases Nat.eq_zero_or_pos n with h0 | h0
    · subst h0
      go_wp2_with fail
      go_ret
      have e := HO.out.1
      rw [C.limbs_zero, List.append_nil] at e
      have h2 := HO.out.2
      rw [e] at h2
      exact ⟨⟨_, rfl, LN.own h2⟩, hB⟩
    · have hmod : (n : Int).tmod 32768 = ((n % C.LB : Nat) : Int) := by unfold C.LB; rw [Int.tmod_eq_emod_of_nonneg (by omega)]; omega
      have hdiv : (n : Int).tdiv 32768 = ((n / C.LB : Nat) : Int) := by unfold C.LB; rw [Int.tdiv_eq_ediv_of_nonneg (by omega)]; omega
      have hq : n / C.LB < n := Nat.div_lt_self h0 (by decide)
      have hs : (o ++ [n % C.LB]) ++ C.limbs (n / C.LB) = C.limbs x := limbs_step HO.out.1 (by omega)
      have HS : Sl _ := ⟨hs⟩
      clear hs
      generalize n % C.LB = r at *
      generalize n / C.LB = q at *
      have HOA := HO.out.2.alloc (.cells #[.int .i64 (r : Int)] 2)
      go_wp2_with (at_builtin; go_loud (refine wpList_append_any _ rfl (.tmp 6) (.tmp 9) _ rfl w.heap.size 2 i0 _ 1 8 Tryz.underlying103 HI.out.1 HI.out.2.1 HI.out.2.2.1 HI.out.2.2.2 rfl (by decide) _ o.length _ rfl HOA _ (some ⟨wr.heap.size, 0, none⟩) 1 1 ([r].map cv) rfl (V_one wr r _) (one_cv r) (by unfold maxLen; omega) (by omega) (Nat.le_trans hB.size (by simp)) ?_; intro v1 w3 hown1 hg1 hat1))
      have hBa := hB.alloc hB.size (.cells #[.int .i64 (r : Int)] 2)
      have hown := HO.out.2.lt
      have hB3 := hBa.grown hg1 (Nat.le_trans hB.size (by simp)) (fun k hk => (hown k hk).1)
      refine ⟨⟨q, o ++ [r], by omega, rfl, ⟨HS.out, ?_⟩, hB3⟩, by simp [RowKit.intOf]; try omega⟩
      rw [List.map_append, List.length_append]; exact hown1

set_option maxHeartbeats 800000 in
theorem r4cmp_any (v u : Value) (a b : Nat) (w : World) (ha : LN w v a) (hb : LN w u b) (hna : (C.limbs a).length ≤ 100000) (hnb : (C.limbs b).length ≤ 100000) :
    Calls Tryz.prog 89 #[v, u] w fun e w' => e = .returned (.int .i64 (cmpN a b)) ∧ ∃ q, w' = w.drewN q := by
  obtain ⟨A, c, rfl, _, _, ha⟩ := ha
  obtain ⟨B, d, rfl, _, _, hb⟩ := hb
  obtain ⟨n, hn⟩ : ∃ n, (C.limbs a).length = n := ⟨_, rfl⟩
  obtain ⟨m, hm⟩ : ∃ m, (C.limbs b).length = m := ⟨_, rfl⟩
  rw [hn] at ha hna ⊢
  rw [hm] at hb hnb ⊢
  rcases Nat.lt_trichotomy n m with hlt | heq | hgt
  · have hne : ((n : Int) != (m : Int)) = true := by rw [bne_iff_ne]; omega
    have e : cmpN a b = -1 := cmpN_lt (C.limbs_len_lt (by omega))
    have E : Sl _ := ⟨e⟩
    clear hn hm e
    go_enter Tryz.func89, Tryz.ntmps89
    go_wp2_with fail
    go_ret
    exact ⟨by rw [E.out]; rfl, 0, rfl⟩
  · subst heq
    have HA : Sl _ := ⟨hn⟩
    have HB : Sl _ := ⟨hm⟩
    have hne : ((n : Int) != (n : Int)) = false := by simp
    clear hn hm
    go_enter Tryz.func89, Tryz.ntmps89
    go_wp2_with fail
    go_loopw [5] (fun i wr => ∃ k q : Nat, k ≤ n ∧ i = .int .i64 ((k : Int) - 1) ∧ Sl ((C.limbs a).drop k = (C.limbs b).drop k) ∧ wr = w.drewN q) (fun i _ => (RowKit.intOf i + 1).toNat)
    case atStart => exact ⟨n, 0, Nat.le_refl _, rfl, ⟨by rw [List.drop_of_length_le (by rw [HA.out]; omega), List.drop_of_length_le (by rw [HB.out]; omega)]⟩, rfl⟩
    case round =>
      obtain ⟨k, q, hk, rfl, HD, rfl⟩ := hrel
      rcases k with _ | k
      · go_wp2_with fail
        go_ret
        have e : a = b := by have := HD.out; simp at this; exact C.limbs_inj this
        subst e
        exact ⟨by rw [cmpN_eq]; rfl, _, rfl⟩
      · obtain ⟨ad, rfl, hbd, hca⟩ := ha.cell (k := k) (by omega)
        obtain ⟨bd, rfl, hbd', hcb⟩ := hb.cell (k := k) (by omega)
        have ek : (((k + 1 : Nat) : Int) - 1) = (k : Int) := by omega
        rcases Nat.lt_trichotomy ((C.limbs a)[k]?.getD 0) ((C.limbs b)[k]?.getD 0) with h1 | h1 | h1
        · have hv : a < b := by have := C.valOf_lt_of (HA.out.trans HB.out.symm) (by rw [HA.out]; omega) (C.limbs_lt a) HD.out h1; rwa [C.valOf_limbs, C.valOf_limbs] at this
          have E : Sl _ := ⟨cmpN_lt hv⟩
          clear hv
          go_wp2_with fail
          go_quiet (fail)
          go_wp2_with fail
          go_ret
          exact ⟨by rw [E.out]; rfl, _, by first | rfl | exact drew2 _ _ _⟩
        · have HE : Sl _ := ⟨h1⟩
          rw [← h1] at hcb
          clear h1
          go_wp2_with fail
          go_quiet (fail)
          go_wp2_with fail
          go_quiet (fail)
          go_wp2_with fail
          exact ⟨⟨k, _, by omega, by first | rfl | exact ret_num (by omega), ⟨C.drop_step (HA.out.trans HB.out.symm) (by rw [HA.out]; omega) HD.out HE.out⟩, by first | rfl | exact drew3 _ _ _ _⟩, by simp [RowKit.intOf]; try omega⟩
        · have hv : b < a := by have := C.valOf_lt_of (HB.out.trans HA.out.symm) (by rw [HB.out]; omega) (C.limbs_lt b) HD.out.symm h1; rwa [C.valOf_limbs, C.valOf_limbs] at this
          have E : Sl _ := ⟨cmpN_gt hv⟩
          clear hv
          go_wp2_with fail
          go_quiet (fail)
          go_wp2_with fail
          go_quiet (fail)
          go_wp2_with fail
          go_ret
          exact ⟨by rw [E.out]; rfl, _, by first | rfl | exact drew3 _ _ _ _⟩
  · have hne : ((n : Int) != (m : Int)) = true := by rw [bne_iff_ne]; omega
    have e : cmpN a b = 1 := cmpN_gt (C.limbs_len_lt (by omega))
    have E : Sl _ := ⟨e⟩
    clear hn hm e
    go_enter Tryz.func89, Tryz.ntmps89
    go_wp2_with fail
    go_ret
    exact ⟨by rw [E.out]; rfl, 0, rfl⟩
end Go.Proofs.YtafadpaljanghaaGreatDoor
namespace Go.Proofs.YtafadpaljanghaaGreatDoor
set_option linter.unusedSimpArgs false
open Go.RowKit
set_option linter.unusedVariables false

/-- the number that n places of a row say -/
def C.sumF (f : Nat → Nat) : Nat → Nat
  | 0 => 0
  | n+1 => C.sumF f n + C.LB ^ n * f n
theorem C.sumF_congr {f g : Nat → Nat} : ∀ n, (∀ j, j < n → f j = g j) → C.sumF f n = C.sumF g n
  | 0, _ => rfl
  | n+1, h => by rw [C.sumF, C.sumF, C.sumF_congr n (fun j hj => h j (by omega)), h n (by omega)]
theorem C.sumF_list (l : List Nat) : ∀ n, C.sumF (fun j => l[j]?.getD 0) n = C.valOf (l.take n)
  | 0 => by simp [C.sumF, C.valOf]
  | n+1 => by
    rw [C.sumF, C.sumF_list l n]
    rcases Nat.lt_or_ge n l.length with h | h
    · rw [C.valOf_take_succ l n h]
    · rw [List.take_of_length_le h, List.take_of_length_le (Nat.le_succ_of_le h), List.getElem?_eq_none h]; simp
theorem C.sumF_add (f g : Nat → Nat) : ∀ n, C.sumF (fun j => f j + g j) n = C.sumF f n + C.sumF g n
  | 0 => rfl
  | n+1 => by rw [C.sumF, C.sumF, C.sumF, C.sumF_add f g n, Nat.mul_add]; omega
theorem C.sumF_zero : ∀ n, C.sumF (fun _ => 0) n = 0
  | 0 => rfl
  | n+1 => by rw [C.sumF, C.sumF_zero n]; rfl
theorem C.sumF_put (f : Nat → Nat) (p x : Nat) : ∀ n, p < n → C.sumF (fun j => if j = p then f p + x else f j) n = C.sumF f n + C.LB ^ p * x
  | 0, h => absurd h (Nat.not_lt_zero _)
  | n+1, h => by
    rw [C.sumF, C.sumF]
    by_cases e : n = p
    · subst e
      rw [if_pos rfl, C.sumF_congr (g := f) n (fun j hj => if_neg (by omega)), Nat.mul_add]; omega
    · rw [if_neg e, C.sumF_put f p x n (by omega)]; omega
theorem C.list_sum {l : List Nat} {n : Nat} (h : l.length ≤ n) : C.sumF (fun j => l[j]?.getD 0) n = C.valOf l := by
  rw [C.sumF_list, List.take_of_length_le h]

theorem carry_more {c t : Nat} (h : c < C.LB ^ (4 - t)) (h0 : 0 < c) : t < 4 ∧ c / C.LB < C.LB ^ (4 - (t + 1)) := by
  have ht : t < 4 := by
    rcases Nat.lt_or_ge t 4 with h1 | h1
    · exact h1
    · rw [show 4 - t = 0 by omega, Nat.pow_zero] at h; omega
  refine ⟨ht, ?_⟩
  rw [show 4 - t = (4 - (t + 1)) + 1 by omega, Nat.pow_succ, Nat.mul_comm] at h
  exact Nat.div_lt_of_lt_mul h
set_option maxHeartbeats 1600000 in
set_option maxRecDepth 100000 in
theorem r4carry_any (g n : Nat) (f : Nat → Nat) (w : World) (hrow : w.rowIs g 2 n (fun j => cv (f j))) (hf : ∀ j, j < n → f j ≤ 2305843009213693952) (hn : n ≤ 100000) :
    Calls Tryz.prog 112 #[.slice (some ⟨g, 0, none⟩) n n] w fun e w' => (∃ v, e = .returned v ∧ LN w' v (C.sumF f n)) ∧ Below g w w' := by
  obtain ⟨i0, hi0, hz0, hz1, hz2⟩ := info_parts infoI
  have HI : Sl _ := ⟨And.intro hi0 (And.intro hz0 (And.intro hz1 hz2))⟩
  have HF : Sl _ := ⟨hf⟩
  have hg := hrow.lt
  have HG : Sl _ := ⟨hg⟩
  have HR : Sl _ := ⟨hrow⟩
  clear hi0 hz0 hz1 hz2 hf hg hrow
  go_enter Tryz.func112, Tryz.ntmps112
  go_wp2_with fail
  go_loopw [3, 4] (fun s3 s4 wr => ∃ (i c : Nat) (d : List Nat), i ≤ n ∧ s4 = .int .i64 i ∧ s3 = .int .i64 c ∧ c ≤ 140737488355328 ∧ Sl (d.length = i ∧ (∀ x ∈ d, x < C.LB) ∧ C.valOf d + C.LB ^ i * c = C.sumF f i ∧ wr.rowIs g 2 n (fun j => cv (if j < i then d[j]?.getD 0 else f j)) ∧ Below g w wr)) (fun _ s4 _ => n - (RowKit.intOf s4).toNat)
  case atStart => exact ⟨0, 0, [], Nat.zero_le _, rfl, rfl, by omega, ⟨rfl, by simp, by simp [C.valOf, C.sumF], HR.out.congr (fun j _ => by simp), Below.refl _ _⟩⟩
  case round =>
    obtain ⟨i, c, d, hi, rfl, rfl, hc, HD⟩ := hrel
    by_cases hin : i < n
    · have hcell : wr.cell? ⟨g, i, none⟩ = some (.int .i64 (f i : Nat)) := by
        rw [HD.out.2.2.2.1.cell hin, if_neg (Nat.lt_irrefl _)]; rfl
      have hfz : wr.frozen? ⟨g, i, none⟩ = false := HD.out.2.2.2.1.frozen i
      have hfi := HF.out i hin
      have HS : Sl _ := ⟨carry_step (x := f i) HD.out.2.2.1⟩
      obtain ⟨x, hx⟩ : ∃ x, f i = x := ⟨_, rfl⟩
      rw [hx] at hcell hfi HS
      have hr : (c + x) % C.LB < C.LB := Nat.mod_lt _ (by decide)
      have hmod : ((c : Int) + (x : Int)).tmod 32768 = (((c + x) % C.LB : Nat) : Int) := by unfold C.LB; rw [Int.tmod_eq_emod_of_nonneg (by omega)]; omega
      have hdiv : ((c : Int) + (x : Int)).tdiv 32768 = (((c + x) / C.LB : Nat) : Int) := by unfold C.LB; rw [Int.tdiv_eq_ediv_of_nonneg (by omega)]; omega
      have hq : (c + x) / C.LB ≤ 140737488355328 := by unfold C.LB; omega
      have HX : Sl _ := ⟨hx⟩
      clear hx
      generalize (c + x) % C.LB = r at *
      generalize (c + x) / C.LB = q at *
      have hP := HD.out.2.2.2.1.set i (.int .i64 (r : Int))
      have HN : Sl (C.valOf (d ++ [r]) + C.LB ^ (i+1) * q = C.sumF f (i+1)) := ⟨by
        rw [C.valOf_snoc, HD.out.1, C.sumF, HX.out]; exact HS.out⟩
      have HR2 : Sl (World.rowIs (wr.setCell ⟨g, i, none⟩ (.int .i64 (r : Int))) g 2 n (fun j => cv (if j < i + 1 then (d ++ [r])[j]?.getD 0 else f j))) := ⟨hP.congr fun j hj => by
        by_cases e : j = i
        · rw [if_pos e, if_pos (by omega), List.getElem?_append_right (by rw [HD.out.1]; omega), HD.out.1, e]; simp [cv]
        · rw [if_neg e]
          by_cases e2 : j < i
          · rw [if_pos e2, if_pos (by omega), List.getElem?_append_left (by rw [HD.out.1]; exact e2)]
          · rw [if_neg e2, if_neg (by omega)]⟩
      have HB : Sl _ := ⟨HD.out.2.2.2.2.setCell (p := ⟨g, i, none⟩) (Nat.le_refl _) (.int .i64 (r : Int))⟩
      have HRR : Sl _ := ⟨hr⟩
      clear hP hr HS
      go_wp2_with fail
      refine ⟨⟨i + 1, q, d ++ [r], hin, by go_num, rfl, hq, ⟨by rw [List.length_append, HD.out.1]; rfl, C.all_snoc HD.out.2.1 HRR.out, HN.out, HR2.out, HB.out⟩⟩, by simp [RowKit.intOf]; try omega⟩
    · obtain rfl : i = n := by omega
      have hown := own_of_row (base := g) HD.out.2.2.2.1 (Nat.le_refl _) (by unfold maxLen; omega) d HD.out.1 (fun j hj => by rw [if_pos hj])
      have HO : Sl _ := ⟨And.intro hown (And.intro HD.out.2.1 (And.intro HD.out.2.2.1 (And.intro HD.out.2.2.2.2 HD.out.1)))⟩
      clear hown HD HR
      go_wp2_with fail
      go_loopw [0, 3] (fun s0 s3 wq => ∃ (c t : Nat) (d : List Nat), s3 = .int .i64 c ∧ c < C.LB ^ (4 - t) ∧ t ≤ 4 ∧ Sl (d.length = i + t ∧ wq.ownsRow g 2 1 s0 (i + t) (d.map cv) ∧ (∀ x ∈ d, x < C.LB) ∧ C.valOf d + C.LB ^ (i + t) * c = C.sumF f i ∧ Below g w wq)) (fun _ s3 _ => (RowKit.intOf s3).toNat)
      case atStart => exact ⟨c, 0, d, rfl, by rw [C.LB_eq]; omega, by omega, ⟨HO.out.2.2.2.2, HO.out.1, HO.out.2.1, HO.out.2.2.1, HO.out.2.2.2.1⟩⟩
      case round =>
        clear HO
        obtain ⟨c, t, d, rfl, hct, ht, HD⟩ := hrel
        rcases Nat.eq_zero_or_pos c with h0 | h0
        · subst h0
          have hwn := HD.out.2.1
          rcases hwn.2 with ⟨rfl, h1⟩ | ⟨g', cap, cur, rfl, k1, k2, k3, k4, _⟩
          · have hV : V wr none 0 d := by have h2 := hwn; rw [h1] at h2; exact V.of_own h2
            have hd : d = [] := List.eq_nil_of_length_eq_zero (by rw [HD.out.1]; exact h1)
            have hT := r4trim_any none 0 0 d wr hV (Nat.le_refl _) (by unfold maxLen; omega)
            rw [C.trimN_limbs HD.out.2.2.1, show C.valOf d = C.sumF f i by have := HD.out.2.2.2.1; simpa using this] at hT
            have HT : Sl _ := ⟨hT⟩
            clear hwn hV hd hT
            go_wp2_with fail
            refine HT.out.mono ?_; rintro e w2 ⟨⟨rfl, q1, q2⟩, rfl⟩
            go_wp2_with fail
            go_ret
            exact ⟨⟨_, rfl, _, _, rfl, q1, by unfold maxLen; omega, q2⟩, HD.out.2.2.2.2⟩
          · have hV : V wr (some ⟨g', 0, none⟩) (i + t) d := V.of_own hwn
            have hT := r4trim_any _ (i + t) cap d wr hV k3 k4
            rw [C.trimN_limbs HD.out.2.2.1, show C.valOf d = C.sumF f i by have := HD.out.2.2.2.1; simpa using this] at hT
            have HT : Sl _ := ⟨hT⟩
            have HK : Sl _ := ⟨k4⟩
            clear hwn hV hT k2 k3 k4 k1
            go_wp2_with fail
            refine HT.out.mono ?_; rintro e w2 ⟨⟨rfl, q1, q2⟩, rfl⟩
            go_wp2_with fail
            go_ret
            exact ⟨⟨_, rfl, _, _, rfl, q1, HK.out, q2⟩, HD.out.2.2.2.2⟩
        · obtain ⟨ht4, hq4⟩ := carry_more hct h0
          have hc8 : c < 1152921504606846976 := by
            refine Nat.lt_of_lt_of_le hct ?_
            exact Nat.le_trans (Nat.pow_le_pow_right (by decide) (show 4 - t ≤ 4 by omega)) (by decide)
          have hmod : (c : Int).tmod 32768 = ((c % C.LB : Nat) : Int) := by unfold C.LB; rw [Int.tmod_eq_emod_of_nonneg (by omega)]; omega
          have hdiv : (c : Int).tdiv 32768 = ((c / C.LB : Nat) : Int) := by unfold C.LB; rw [Int.tdiv_eq_ediv_of_nonneg (by omega)]; omega
          have hq : c / C.LB < c := Nat.div_lt_self h0 (by decide)
          have hr : c % C.LB < C.LB := Nat.mod_lt _ (by decide)
          have hval : C.valOf d + C.LB ^ (i + t) * (c % C.LB) + C.LB ^ (i + (t + 1)) * (c / C.LB) = C.sumF f i := by
            rw [← HD.out.2.2.2.1, show i + (t + 1) = i + t + 1 by omega, Nat.pow_succ, Nat.mul_assoc, Nat.add_assoc, ← Nat.mul_add, Nat.mod_add_div]
          have HV : Sl _ := ⟨hval⟩
          have HQ4 : Sl _ := ⟨And.intro hq4 hr⟩
          clear hval hq4 hr hct
          generalize c % C.LB = r at *
          generalize c / C.LB = q at *
          have HOA := HD.out.2.1.alloc (.cells #[.int .i64 (r : Int)] 2)
          have hsz : g ≤ wr.heap.size := Nat.le_trans (Nat.le_of_lt HG.out) HD.out.2.2.2.2.size
          go_wp2_with (at_builtin; go_loud (refine wpList_append_any _ rfl (.tmp 26) (.tmp 29) _ rfl g 2 i0 _ 1 8 Tryz.underlying103 HI.out.1 HI.out.2.1 HI.out.2.2.1 HI.out.2.2.2 rfl (by decide) _ (i + t) _ rfl HOA _ (some ⟨wr.heap.size, 0, none⟩) 1 1 ([r].map cv) rfl (V_one wr r _) (one_cv r) (by unfold maxLen; omega) (by omega) (Nat.le_trans hsz (by simp)) ?_; intro v1 w3 hown1 hg1 hat1))
          have hBa := HD.out.2.2.2.2.alloc hsz (.cells #[.int .i64 (r : Int)] 2)
          have hown := HD.out.2.1.lt
          have hB3 := hBa.grown hg1 (Nat.le_trans hsz (by simp)) (fun k hk => (hown k hk).1)
          refine ⟨⟨q, t + 1, d ++ [r], rfl, HQ4.out.1, ht4, ⟨by rw [List.length_append, HD.out.1]; rfl, ?_, C.all_snoc HD.out.2.2.1 HQ4.out.2, ?_, hB3⟩⟩, by simp [RowKit.intOf]; try omega⟩
          · rw [List.map_append]; exact hown1
          · rw [C.valOf_snoc, HD.out.1]; exact HV.out
end Go.Proofs.YtafadpaljanghaaGreatDoor
namespace Go.Proofs.YtafadpaljanghaaGreatDoor
set_option linter.unusedSimpArgs false
open Go.RowKit
set_option linter.unusedVariables false

theorem cv_num {a b : Nat} (h : a = b) : cv a = cv b := by rw [h]
set_option maxHeartbeats 1600000 in
set_option maxRecDepth 100000 in
theorem r4add_ge (v u : Value) (a b : Nat) (w : World) (ha : LN w v a) (hb : LN w u b) (hna : (C.limbs a).length ≤ 50000) (hnb : (C.limbs b).length ≤ 50000) (hcase : (C.limbs b).length ≤ (C.limbs a).length ∧ (C.limbs b).length ≤ (C.limbs a).length) :
    Calls Tryz.prog 87 #[v, u] w fun e w' => (∃ r, e = .returned r ∧ LN w' r (a + b)) ∧ Below w.heap.size w w' := by
  obtain ⟨A, c, rfl, _, _, ha⟩ := ha
  obtain ⟨B, d, rfl, _, _, hb⟩ := hb
  obtain ⟨la, hla⟩ : ∃ l, C.limbs a = l := ⟨_, rfl⟩
  obtain ⟨lb, hlb⟩ : ∃ l, C.limbs b = l := ⟨_, rfl⟩
  have va : C.valOf la = a := by rw [← hla, C.valOf_limbs]
  have vb : C.valOf lb = b := by rw [← hlb, C.valOf_limbs]
  have ta : ∀ j, la[j]?.getD 0 ≤ 32768 := fun j => by
    by_cases h : j < la.length
    · rw [List.getElem?_eq_getElem h]
      have := C.limbs_lt a _ (by rw [hla]; exact List.getElem_mem h)
      rw [C.LB_eq] at this; simp; omega
    · rw [List.getElem?_eq_none (by omega)]; exact Nat.zero_le _
  have tb : ∀ j, lb[j]?.getD 0 ≤ 32768 := fun j => by
    by_cases h : j < lb.length
    · rw [List.getElem?_eq_getElem h]
      have := C.limbs_lt b _ (by rw [hlb]; exact List.getElem_mem h)
      rw [C.LB_eq] at this; simp; omega
    · rw [List.getElem?_eq_none (by omega)]; exact Nat.zero_le _
  rw [hla] at ha hna ⊢
  rw [hlb] at hb hnb ⊢
  obtain ⟨n, hn⟩ : ∃ n, la.length = n := ⟨_, rfl⟩
  obtain ⟨m, hm⟩ : ∃ n, lb.length = n := ⟨_, rfl⟩
  rw [hn] at ha hna ⊢
  rw [hm] at hb hnb ⊢
  obtain ⟨h1, h2⟩ := hcase
  rw [hla, hlb, hn, hm] at h1 h2
  have hmx : max (n : Int) (m : Int) = (n : Int) := by omega
  have hlt : ¬ (n : Int) < (m : Int) := by omega
  have HV : Sl _ := ⟨And.intro va (And.intro vb (And.intro hn (And.intro hm (And.intro ta tb))))⟩
  have HA : Sl _ := ⟨ha⟩
  have HB : Sl _ := ⟨hb⟩
  clear va vb hn hm ta tb hla hlb ha hb
  have hmk := run_make_row' (P := Tryz.prog) 103 2 (.int .i64 0) 8 Tryz.underlying103 infoI rfl .i64 .i64 n (by omega) (by omega)
  have R0 := World.rowIs_made w (.int .i64 0) n 2
  have hu := (Below.refl w.heap.size w).alloc (Nat.le_refl _) (.cells (madeCells #[.int .i64 0] n) 2)
  have HU : Sl _ := ⟨And.intro hu R0⟩
  clear hu R0
  go_enter Tryz.func87, Tryz.ntmps87
  go_wp2_with fail
  clear hmk
  generalize w.alloc (.cells (madeCells #[.int .i64 0] n) 2) = w0 at *
  go_loopw [6] (fun s6 wr => ∃ i : Nat, i ≤ n ∧ s6 = .int .i64 i ∧ Sl (wr.rowIs w.heap.size 2 n (fun j => cv (if j < i then la[j]?.getD 0 else 0)) ∧ Below w.heap.size w wr)) (fun s6 _ => n - (RowKit.intOf s6).toNat)
  case atStart => exact ⟨0, Nat.zero_le _, rfl, ⟨HU.out.2.congr (fun j _ => by simp [cv]), HU.out.1⟩⟩
  case round =>
    clear HU
    obtain ⟨i, hi, rfl, HR⟩ := hrel
    by_cases hin : i < n
    · obtain ⟨ad, rfl, hbd, hca⟩ := (HA.out.below HR.out.2).cell (k := i) hin
      have hcell : wr.cell? ⟨w.heap.size, i, none⟩ = some (.int .i64 0) := by
        rw [HR.out.1.cell (by omega), if_neg (Nat.lt_irrefl _)]; rfl
      have hfz : wr.frozen? ⟨w.heap.size, i, none⟩ = false := HR.out.1.frozen i
      obtain ⟨x, hx⟩ : ∃ x, la[i]?.getD 0 = x := ⟨_, rfl⟩
      rw [hx] at hca
      have HP : Sl (World.rowIs (wr.setCell ⟨w.heap.size, i, none⟩ (.int .i64 (x : Int))) w.heap.size 2 n (fun j => cv (if j < i + 1 then la[j]?.getD 0 else 0))) := ⟨(HR.out.1.set i (.int .i64 (x : Int))).congr fun j hj => by
        by_cases e : j = i
        · rw [if_pos e, if_pos (by omega), e, hx]; rfl
        · rw [if_neg e]
          by_cases e2 : j < i
          · rw [if_pos e2, if_pos (by omega)]
          · rw [if_neg e2, if_neg (by omega)]⟩
      have HBN : Sl _ := ⟨HR.out.2.setCell (p := ⟨w.heap.size, i, none⟩) (Nat.le_refl _) (.int .i64 (x : Int))⟩
      clear hx
      go_wp2_with fail
      exact ⟨⟨i + 1, hin, by go_num, ⟨HP.out, HBN.out⟩⟩, by simp [RowKit.intOf]; try omega⟩
    · obtain rfl : n = i := by omega
      clear hin hi
      go_wp2_with fail
      have HR2 : Sl (World.rowIs wr w.heap.size 2 n (fun j => cv (la[j]?.getD 0)) ∧ Below w.heap.size w wr) := ⟨HR.out.1.congr (fun j hj => cv_num (by
        by_cases h : j < n
        · rw [if_pos h]
        · rw [if_neg h, List.getElem?_eq_none (by rw [HV.out.2.2.1]; omega)]; rfl)), HR.out.2⟩
      clear HR
      go_loopw [7] (fun s7 wq => ∃ k : Nat, k ≤ m ∧ s7 = .int .i64 k ∧ Sl (wq.rowIs w.heap.size 2 n (fun j => cv (la[j]?.getD 0 + if j < k then lb[j]?.getD 0 else 0)) ∧ Below w.heap.size w wq)) (fun s7 _ => m - (RowKit.intOf s7).toNat)
      case atStart => exact ⟨0, Nat.zero_le _, rfl, ⟨HR2.out.1.congr (fun j _ => by simp), HR2.out.2⟩⟩
      case round =>
        clear HR2
        obtain ⟨k, hk, rfl, HR⟩ := hrel
        by_cases hkm : k < m
        · obtain ⟨ad, rfl, hbd, hca⟩ := (HB.out.below HR.out.2).cell (k := k) hkm
          obtain ⟨x, hx⟩ : ∃ x, la[k]?.getD 0 = x := ⟨_, rfl⟩
          obtain ⟨y, hy⟩ : ∃ y, lb[k]?.getD 0 = y := ⟨_, rfl⟩
          have hx1 : x ≤ 32768 := by rw [← hx]; exact HV.out.2.2.2.2.1 k
          have hy1 : y ≤ 32768 := by rw [← hy]; exact HV.out.2.2.2.2.2 k
          have hcell : wr.cell? ⟨w.heap.size, k, none⟩ = some (.int .i64 (x : Int)) := by
            rw [HR.out.1.cell (by omega), if_neg (Nat.lt_irrefl _), hx]; rfl
          have hfz : wr.frozen? ⟨w.heap.size, k, none⟩ = false := HR.out.1.frozen k
          rw [hy] at hca
          have HP : Sl (World.rowIs (wr.setCell ⟨w.heap.size, k, none⟩ (.int .i64 ((x : Int) + (y : Int)))) w.heap.size 2 n (fun j => cv (la[j]?.getD 0 + if j < k + 1 then lb[j]?.getD 0 else 0))) := ⟨(HR.out.1.set k (.int .i64 ((x : Int) + (y : Int)))).congr fun j hj => by
            by_cases e : j = k
            · rw [if_pos e, if_pos (by omega), e, hx, hy]; exact ret_num (by omega)
            · rw [if_neg e]
              by_cases e2 : j < k
              · rw [if_pos e2, if_pos (by omega)]
              · rw [if_neg e2, if_neg (by omega)]⟩
          have HBN : Sl _ := ⟨HR.out.2.setCell (p := ⟨w.heap.size, k, none⟩) (Nat.le_refl _) (.int .i64 ((x : Int) + (y : Int)))⟩
          clear hx hy
          go_wp2_with fail
          go_region
          all_goals (
            go_wp2_with fail
            exact ⟨⟨k + 1, hkm, by go_num, ⟨HP.out, below_drewN HBN.out 1⟩⟩, by simp [RowKit.intOf]; try omega⟩)
        · obtain rfl : m = k := by omega
          have hrow := HR.out.1.congr (g := fun j => cv (la[j]?.getD 0 + lb[j]?.getD 0)) (fun j hj => cv_num (by
            by_cases h : j < m
            · rw [if_pos h]
            · rw [if_neg h, List.getElem?_eq_none (l := lb) (by rw [HV.out.2.2.2.1]; omega)]; rfl))
          have hC := r4carry_any w.heap.size n (fun j => la[j]?.getD 0 + lb[j]?.getD 0) wr hrow (fun j hj => by have := HV.out.2.2.2.2.1 j; have := HV.out.2.2.2.2.2 j; omega) (by omega)
          rw [C.sumF_add, C.list_sum (by rw [HV.out.2.2.1]; omega), C.list_sum (by rw [HV.out.2.2.2.1]; omega), HV.out.1, HV.out.2.1] at hC
          have HC : Sl _ := ⟨hC⟩
          clear hrow hC
          go_wp2_with fail
          refine HC.out.mono ?_; rintro e w2 ⟨⟨r, rfl, hr⟩, hb2⟩
          go_wp2_with fail
          go_ret
          exact ⟨⟨_, rfl, hr⟩, HR.out.2.trans hb2⟩
set_option maxHeartbeats 1600000 in
set_option maxRecDepth 100000 in
theorem r4add_lt (v u : Value) (a b : Nat) (w : World) (ha : LN w v a) (hb : LN w u b) (hna : (C.limbs a).length ≤ 50000) (hnb : (C.limbs b).length ≤ 50000) (hcase : (C.limbs a).length < (C.limbs b).length ∧ (C.limbs a).length < (C.limbs b).length) :
    Calls Tryz.prog 87 #[v, u] w fun e w' => (∃ r, e = .returned r ∧ LN w' r (a + b)) ∧ Below w.heap.size w w' := by
  obtain ⟨A, c, rfl, _, _, ha⟩ := ha
  obtain ⟨B, d, rfl, _, _, hb⟩ := hb
  obtain ⟨la, hla⟩ : ∃ l, C.limbs a = l := ⟨_, rfl⟩
  obtain ⟨lb, hlb⟩ : ∃ l, C.limbs b = l := ⟨_, rfl⟩
  have va : C.valOf la = a := by rw [← hla, C.valOf_limbs]
  have vb : C.valOf lb = b := by rw [← hlb, C.valOf_limbs]
  have ta : ∀ j, la[j]?.getD 0 ≤ 32768 := fun j => by
    by_cases h : j < la.length
    · rw [List.getElem?_eq_getElem h]
      have := C.limbs_lt a _ (by rw [hla]; exact List.getElem_mem h)
      rw [C.LB_eq] at this; simp; omega
    · rw [List.getElem?_eq_none (by omega)]; exact Nat.zero_le _
  have tb : ∀ j, lb[j]?.getD 0 ≤ 32768 := fun j => by
    by_cases h : j < lb.length
    · rw [List.getElem?_eq_getElem h]
      have := C.limbs_lt b _ (by rw [hlb]; exact List.getElem_mem h)
      rw [C.LB_eq] at this; simp; omega
    · rw [List.getElem?_eq_none (by omega)]; exact Nat.zero_le _
  rw [hla] at ha hna ⊢
  rw [hlb] at hb hnb ⊢
  obtain ⟨n, hn⟩ : ∃ n, la.length = n := ⟨_, rfl⟩
  obtain ⟨m, hm⟩ : ∃ n, lb.length = n := ⟨_, rfl⟩
  rw [hn] at ha hna ⊢
  rw [hm] at hb hnb ⊢
  obtain ⟨h1, h2⟩ := hcase
  rw [hla, hlb, hn, hm] at h1 h2
  have hmx : max (n : Int) (m : Int) = (m : Int) := by omega
  have hlt : (n : Int) < (m : Int) := by omega
  have HV : Sl _ := ⟨And.intro va (And.intro vb (And.intro hn (And.intro hm (And.intro ta tb))))⟩
  have HA : Sl _ := ⟨ha⟩
  have HB : Sl _ := ⟨hb⟩
  clear va vb hn hm ta tb hla hlb ha hb
  have hmk := run_make_row' (P := Tryz.prog) 103 2 (.int .i64 0) 8 Tryz.underlying103 infoI rfl .i64 .i64 m (by omega) (by omega)
  have R0 := World.rowIs_made w (.int .i64 0) m 2
  have hu := (Below.refl w.heap.size w).alloc (Nat.le_refl _) (.cells (madeCells #[.int .i64 0] m) 2)
  have HU : Sl _ := ⟨And.intro hu R0⟩
  clear hu R0
  go_enter Tryz.func87, Tryz.ntmps87
  go_wp2_with fail
  clear hmk
  generalize w.alloc (.cells (madeCells #[.int .i64 0] m) 2) = w0 at *
  go_loopw [6] (fun s6 wr => ∃ i : Nat, i ≤ n ∧ s6 = .int .i64 i ∧ Sl (wr.rowIs w.heap.size 2 m (fun j => cv (if j < i then la[j]?.getD 0 else 0)) ∧ Below w.heap.size w wr)) (fun s6 _ => n - (RowKit.intOf s6).toNat)
  case atStart => exact ⟨0, Nat.zero_le _, rfl, ⟨HU.out.2.congr (fun j _ => by simp [cv]), HU.out.1⟩⟩
  case round =>
    clear HU
    obtain ⟨i, hi, rfl, HR⟩ := hrel
    by_cases hin : i < n
    · obtain ⟨ad, rfl, hbd, hca⟩ := (HA.out.below HR.out.2).cell (k := i) hin
      have hcell : wr.cell? ⟨w.heap.size, i, none⟩ = some (.int .i64 0) := by
        rw [HR.out.1.cell (by omega), if_neg (Nat.lt_irrefl _)]; rfl
      have hfz : wr.frozen? ⟨w.heap.size, i, none⟩ = false := HR.out.1.frozen i
      obtain ⟨x, hx⟩ : ∃ x, la[i]?.getD 0 = x := ⟨_, rfl⟩
      rw [hx] at hca
      have HP : Sl (World.rowIs (wr.setCell ⟨w.heap.size, i, none⟩ (.int .i64 (x : Int))) w.heap.size 2 m (fun j => cv (if j < i + 1 then la[j]?.getD 0 else 0))) := ⟨(HR.out.1.set i (.int .i64 (x : Int))).congr fun j hj => by
        by_cases e : j = i
        · rw [if_pos e, if_pos (by omega), e, hx]; rfl
        · rw [if_neg e]
          by_cases e2 : j < i
          · rw [if_pos e2, if_pos (by omega)]
          · rw [if_neg e2, if_neg (by omega)]⟩
      have HBN : Sl _ := ⟨HR.out.2.setCell (p := ⟨w.heap.size, i, none⟩) (Nat.le_refl _) (.int .i64 (x : Int))⟩
      clear hx
      go_wp2_with fail
      exact ⟨⟨i + 1, hin, by go_num, ⟨HP.out, HBN.out⟩⟩, by simp [RowKit.intOf]; try omega⟩
    · obtain rfl : n = i := by omega
      clear hin hi
      go_wp2_with fail
      have HR2 : Sl (World.rowIs wr w.heap.size 2 m (fun j => cv (la[j]?.getD 0)) ∧ Below w.heap.size w wr) := ⟨HR.out.1.congr (fun j hj => cv_num (by
        by_cases h : j < n
        · rw [if_pos h]
        · rw [if_neg h, List.getElem?_eq_none (by rw [HV.out.2.2.1]; omega)]; rfl)), HR.out.2⟩
      clear HR
      go_loopw [7] (fun s7 wq => ∃ k : Nat, k ≤ m ∧ s7 = .int .i64 k ∧ Sl (wq.rowIs w.heap.size 2 m (fun j => cv (la[j]?.getD 0 + if j < k then lb[j]?.getD 0 else 0)) ∧ Below w.heap.size w wq)) (fun s7 _ => m - (RowKit.intOf s7).toNat)
      case atStart => exact ⟨0, Nat.zero_le _, rfl, ⟨HR2.out.1.congr (fun j _ => by simp), HR2.out.2⟩⟩
      case round =>
        clear HR2
        obtain ⟨k, hk, rfl, HR⟩ := hrel
        by_cases hkm : k < m
        · obtain ⟨ad, rfl, hbd, hca⟩ := (HB.out.below HR.out.2).cell (k := k) hkm
          obtain ⟨x, hx⟩ : ∃ x, la[k]?.getD 0 = x := ⟨_, rfl⟩
          obtain ⟨y, hy⟩ : ∃ y, lb[k]?.getD 0 = y := ⟨_, rfl⟩
          have hx1 : x ≤ 32768 := by rw [← hx]; exact HV.out.2.2.2.2.1 k
          have hy1 : y ≤ 32768 := by rw [← hy]; exact HV.out.2.2.2.2.2 k
          have hcell : wr.cell? ⟨w.heap.size, k, none⟩ = some (.int .i64 (x : Int)) := by
            rw [HR.out.1.cell (by omega), if_neg (Nat.lt_irrefl _), hx]; rfl
          have hfz : wr.frozen? ⟨w.heap.size, k, none⟩ = false := HR.out.1.frozen k
          rw [hy] at hca
          have HP : Sl (World.rowIs (wr.setCell ⟨w.heap.size, k, none⟩ (.int .i64 ((x : Int) + (y : Int)))) w.heap.size 2 m (fun j => cv (la[j]?.getD 0 + if j < k + 1 then lb[j]?.getD 0 else 0))) := ⟨(HR.out.1.set k (.int .i64 ((x : Int) + (y : Int)))).congr fun j hj => by
            by_cases e : j = k
            · rw [if_pos e, if_pos (by omega), e, hx, hy]; exact ret_num (by omega)
            · rw [if_neg e]
              by_cases e2 : j < k
              · rw [if_pos e2, if_pos (by omega)]
              · rw [if_neg e2, if_neg (by omega)]⟩
          have HBN : Sl _ := ⟨HR.out.2.setCell (p := ⟨w.heap.size, k, none⟩) (Nat.le_refl _) (.int .i64 ((x : Int) + (y : Int)))⟩
          clear hx hy
          go_wp2_with fail
          go_region
          all_goals (
            go_wp2_with fail
            exact ⟨⟨k + 1, hkm, by go_num, ⟨HP.out, below_drewN HBN.out 1⟩⟩, by simp [RowKit.intOf]; try omega⟩)
        · obtain rfl : m = k := by omega
          have hrow := HR.out.1.congr (g := fun j => cv (la[j]?.getD 0 + lb[j]?.getD 0)) (fun j hj => cv_num (by
            by_cases h : j < m
            · rw [if_pos h]
            · rw [if_neg h, List.getElem?_eq_none (l := lb) (by rw [HV.out.2.2.2.1]; omega)]; rfl))
          have hC := r4carry_any w.heap.size m (fun j => la[j]?.getD 0 + lb[j]?.getD 0) wr hrow (fun j hj => by have := HV.out.2.2.2.2.1 j; have := HV.out.2.2.2.2.2 j; omega) (by omega)
          rw [C.sumF_add, C.list_sum (by rw [HV.out.2.2.1]; omega), C.list_sum (by rw [HV.out.2.2.2.1]; omega), HV.out.1, HV.out.2.1] at hC
          have HC : Sl _ := ⟨hC⟩
          clear hrow hC
          go_wp2_with fail
          refine HC.out.mono ?_; rintro e w2 ⟨⟨r, rfl, hr⟩, hb2⟩
          go_wp2_with fail
          go_ret
          exact ⟨⟨_, rfl, hr⟩, HR.out.2.trans hb2⟩
theorem r4add_any (v u : Value) (a b : Nat) (w : World) (ha : LN w v a) (hb : LN w u b) (hna : (C.limbs a).length ≤ 50000) (hnb : (C.limbs b).length ≤ 50000) :
    Calls Tryz.prog 87 #[v, u] w fun e w' => (∃ r, e = .returned r ∧ LN w' r (a + b)) ∧ Below w.heap.size w w' := by
  rcases Nat.lt_or_ge (C.limbs a).length (C.limbs b).length with h | h
  · exact r4add_lt v u a b w ha hb hna hnb ⟨h, h⟩
  · exact r4add_ge v u a b w ha hb hna hnb ⟨h, h⟩
end Go.Proofs.YtafadpaljanghaaGreatDoor
namespace Go.Proofs.YtafadpaljanghaaGreatDoor
set_option linter.unusedSimpArgs false
open Go.RowKit
set_option linter.unusedVariables false

theorem C.lim_le (a : Nat) (j : Nat) : (C.limbs a)[j]?.getD 0 ≤ 32767 := by
  by_cases h : j < (C.limbs a).length
  · rw [List.getElem?_eq_getElem h]
    have := C.limbs_lt a _ (List.getElem_mem h)
    rw [C.LB_eq] at this; simp; omega
  · rw [List.getElem?_eq_none (by omega)]; exact Nat.zero_le _
/-- a product under way -/
structure MulI (la lb : List Nat) (N i k : Nat) (F : Nat → Nat) : Prop where
  val : C.sumF F N = C.valOf (la.take i) * C.valOf lb + C.LB ^ i * (la[i]?.getD 0 * C.valOf (lb.take k))
  le : ∀ j, F j ≤ 1073741824 * i + (if j < i + k then 1073741824 else 0)
theorem MulI.step {la lb : List Nat} {N i k x y : Nat} {F : Nat → Nat} (h : MulI la lb N i k F) (hk : k < lb.length) (hN : i + k < N) (hx : la[i]?.getD 0 = x) (hy : lb[k]?.getD 0 = y) (hx1 : x ≤ 32767) (hy1 : y ≤ 32767) :
    MulI la lb N i (k + 1) (fun j => if j = i + k then F (i + k) + x * y else F j) ∧ F (i + k) + x * y ≤ 1073741824 * i + 1073741824 := by
  have hxy : x * y ≤ 32767 * 32767 := Nat.mul_le_mul hx1 hy1
  have hl := h.le (i + k)
  rw [if_neg (Nat.lt_irrefl _)] at hl
  refine ⟨⟨?_, fun j => ?_⟩, by omega⟩
  · rw [C.sumF_put F (i + k) (x * y) N hN, h.val, C.valOf_take_succ lb k hk, hy, hx, Nat.mul_add x, Nat.mul_add (C.LB ^ i), Nat.pow_add, Nat.add_assoc]
    congr 2
    rw [Nat.mul_assoc]
    congr 1
    rw [Nat.mul_left_comm]
  · by_cases e : j = i + k
    · rw [if_pos e, if_pos (by omega)]
      omega
    · rw [if_neg e]
      have := h.le j
      by_cases e2 : j < i + k
      · rw [if_pos e2] at this
        rw [if_pos (by omega)]; exact this
      · rw [if_neg e2] at this
        rw [if_neg (by omega)]; exact this
theorem MulI.done {la lb : List Nat} {N i : Nat} {F : Nat → Nat} (h : MulI la lb N i lb.length F) (hi : i < la.length) : MulI la lb N (i + 1) 0 F := by
  refine ⟨?_, fun j => ?_⟩
  · rw [h.val, C.valOf_take_succ la i hi, List.take_of_length_le (Nat.le_refl _)]
    simp [C.valOf, Nat.add_mul, Nat.mul_assoc]
  · have := h.le j
    have h2 : F j ≤ 1073741824 * i + 1073741824 := by
      refine Nat.le_trans this ?_
      split <;> omega
    refine Nat.le_trans h2 ?_
    have : 1073741824 * (i + 1) = 1073741824 * i + 1073741824 := by omega
    omega
theorem MulI.start (la lb : List Nat) (N : Nat) : MulI la lb N 0 0 (fun _ => 0) := ⟨by rw [C.sumF_zero]; simp [C.valOf], fun j => Nat.zero_le _⟩
set_option maxHeartbeats 3200000 in
set_option maxRecDepth 100000 in
theorem r4mul_any (v u : Value) (a b : Nat) (w : World) (ha : LN w v a) (hb : LN w u b) (hna : (C.limbs a).length ≤ 10000) (hnb : (C.limbs b).length ≤ 10000) :
    Calls Tryz.prog 88 #[v, u] w fun e w' => (∃ r, e = .returned r ∧ LN w' r (a * b)) ∧ Below w.heap.size w w' := by
  obtain ⟨A, c, rfl, _, _, ha⟩ := ha
  obtain ⟨B, d, rfl, _, _, hb⟩ := hb
  have ta := C.lim_le a
  have tb := C.lim_le b
  obtain ⟨la, hla⟩ : ∃ l, C.limbs a = l := ⟨_, rfl⟩
  obtain ⟨lb, hlb⟩ : ∃ l, C.limbs b = l := ⟨_, rfl⟩
  have va : C.valOf la = a := by rw [← hla, C.valOf_limbs]
  have vb : C.valOf lb = b := by rw [← hlb, C.valOf_limbs]
  rw [hla] at ha hna ta ⊢
  rw [hlb] at hb hnb tb ⊢
  obtain ⟨n, hn⟩ : ∃ n, la.length = n := ⟨_, rfl⟩
  obtain ⟨m, hm⟩ : ∃ n, lb.length = n := ⟨_, rfl⟩
  rw [hn] at ha hna ⊢
  rw [hm] at hb hnb ⊢
  have HV : Sl _ := ⟨And.intro va (And.intro vb (And.intro hn (And.intro hm (And.intro ta tb))))⟩
  have HA : Sl _ := ⟨ha⟩
  have HB : Sl _ := ⟨hb⟩
  clear va vb hn hm ta tb hla hlb ha hb
  have hmk := run_make_row' (P := Tryz.prog) 103 2 (.int .i64 0) 8 Tryz.underlying103 infoI rfl .i64 .i64 (n + m) (by omega) (by omega)
  simp only [Int.natCast_add] at hmk
  have R0 := World.rowIs_made w (.int .i64 0) (n + m) 2
  have hu := (Below.refl w.heap.size w).alloc (Nat.le_refl _) (.cells (madeCells #[.int .i64 0] (n + m)) 2)
  have HU : Sl _ := ⟨And.intro hu R0⟩
  clear hu R0
  go_enter Tryz.func88, Tryz.ntmps88
  go_wp2_with fail
  clear hmk
  generalize w.alloc (.cells (madeCells #[.int .i64 0] (n + m)) 2) = w0 at *
  go_loopw [6] (fun s6 wr => ∃ (i : Nat) (F : Nat → Nat), i ≤ n ∧ s6 = .int .i64 i ∧ Sl (MulI la lb (n + m) i 0 F ∧ wr.rowIs w.heap.size 2 (n + m) (fun j => cv (F j)) ∧ Below w.heap.size w wr)) (fun s6 _ => n - (RowKit.intOf s6).toNat)
  case atStart => exact ⟨0, fun _ => 0, Nat.zero_le _, rfl, ⟨MulI.start _ _ _, HU.out.2.congr (fun j _ => rfl), HU.out.1⟩⟩
  case round =>
    clear HU
    obtain ⟨i, F, hi, rfl, HR⟩ := hrel
    obtain ⟨wo, rfl⟩ : ∃ wo : World, wo = wr := ⟨_, rfl⟩
    by_cases hin : i < n
    · go_wp2_with fail
      go_loopw [7] (fun s7 wr => ∃ (k : Nat) (F : Nat → Nat), k ≤ m ∧ s7 = .int .i64 k ∧ Sl (MulI la lb (n + m) i k F ∧ wr.rowIs w.heap.size 2 (n + m) (fun j => cv (F j)) ∧ Below w.heap.size w wr)) (fun s7 _ => m - (RowKit.intOf s7).toNat)
      case atStart => exact ⟨0, F, Nat.zero_le _, rfl, HR⟩
      case round =>
        clear HR
        obtain ⟨k, F, hk, rfl, HR⟩ := hrel
        by_cases hkm : k < m
        · obtain ⟨x, hx⟩ : ∃ x, la[i]?.getD 0 = x := ⟨_, rfl⟩
          obtain ⟨y, hy⟩ : ∃ y, lb[k]?.getD 0 = y := ⟨_, rfl⟩
          have hx1 : x ≤ 32767 := by rw [← hx]; exact HV.out.2.2.2.2.1 i
          have hy1 : y ≤ 32767 := by rw [← hy]; exact HV.out.2.2.2.2.2 k
          obtain ⟨ad, rfl, _, hca⟩ := (HA.out.below HR.out.2.2).cell (k := i) hin
          obtain ⟨bd, rfl, _, hcb⟩ := (HB.out.below HR.out.2.2).cell (k := k) hkm
          rw [hx] at hca
          rw [hy] at hcb
          obtain ⟨hst, hle⟩ := HR.out.1.step (by rw [HV.out.2.2.2.1]; exact hkm) (by omega) hx hy hx1 hy1
          obtain ⟨o, ho⟩ : ∃ o, F (i + k) = o := ⟨_, rfl⟩
          have hcell : wr.cell? ⟨w.heap.size, i + k, none⟩ = some (.int .i64 (o : Int)) := by
            rw [HR.out.2.1.cell (by omega), ho]; rfl
          have hfz : wr.frozen? ⟨w.heap.size, i + k, none⟩ = false := HR.out.2.1.frozen (i + k)
          rw [ho] at hst hle
          obtain ⟨p, hp⟩ : ∃ p, x * y = p := ⟨_, rfl⟩
          have hpi : (x : Int) * (y : Int) = (p : Int) := by rw [← hp, Int.natCast_mul]
          rw [hp] at hst hle
          have hple : p ≤ 1073741824 := by rw [← hp]; exact Nat.le_trans (Nat.mul_le_mul hx1 hy1) (by decide)
          have hidx0 : 0 ≤ (i : Int) + (k : Int) := by omega
          have hidx1 : (i : Int) + (k : Int) < (n : Int) + (m : Int) := by omega
          have hidx2 : IntKind.i64.wrap ((i : Int) + (k : Int)) = ((i + k : Nat) : Int) := by rw [IntKind.wrap_i64]; omega
          have hidx3 : ((i : Int) + (k : Int)).toNat = i + k := by omega
          have hsum : IntKind.i64.wrap ((o : Int) + (p : Int)) = ((o + p : Nat) : Int) := by rw [IntKind.wrap_i64]; omega
          have HP : Sl (World.rowIs (wr.setCell ⟨w.heap.size, i + k, none⟩ (.int .i64 ((o : Int) + (p : Int)))) w.heap.size 2 (n + m) (fun j => cv (if j = i + k then o + p else F j))) := ⟨(HR.out.2.1.set (i + k) (.int .i64 ((o : Int) + (p : Int)))).congr fun j hj => by
            by_cases e : j = i + k
            · rw [if_pos e, if_pos e]; exact ret_num (by omega)
            · rw [if_neg e, if_neg e]⟩
          have HBN : Sl _ := ⟨HR.out.2.2.setCell (p := ⟨w.heap.size, i + k, none⟩) (Nat.le_refl _) (.int .i64 ((o : Int) + (p : Int)))⟩
          have HST : Sl _ := ⟨hst⟩
          clear hst hle hx hy ho hp hx1 hy1
          go_wp2_with fail
          go_region
          all_goals (
            go_wp2_with fail
            exact ⟨⟨k + 1, _, hkm, by go_num, ⟨HST.out, HP.out, below_drewN HBN.out 1⟩⟩, by simp [RowKit.intOf]; try omega⟩)
        · obtain rfl : m = k := by omega
          have hd := HR.out.1
          go_wp2_with fail
          exact ⟨⟨i + 1, F, hin, by go_num, ⟨MulI.done (by rw [HV.out.2.2.2.1]; exact hd) (by rw [HV.out.2.2.1]; exact hin), HR.out.2⟩⟩, by simp [RowKit.intOf]; try omega⟩
    · obtain rfl : n = i := by omega
      have hC := r4carry_any w.heap.size (n + m) F wo HR.out.2.1 (fun j hj => by have := HR.out.1.le j; split at this <;> omega) (by omega)
      rw [HR.out.1.val, List.take_of_length_le (by rw [HV.out.2.2.1]; exact Nat.le_refl _), HV.out.1, HV.out.2.1] at hC
      rw [show a * b + C.LB ^ n * (la[n]?.getD 0 * C.valOf (lb.take 0)) = a * b by simp [C.valOf]] at hC
      have HC : Sl _ := ⟨hC⟩
      clear hC
      go_wp2_with fail
      refine HC.out.mono ?_; rintro e w2 ⟨⟨r, rfl, hr⟩, hb2⟩
      go_wp2_with fail
      go_ret
      exact ⟨⟨_, rfl, hr⟩, HR.out.2.2.trans hb2⟩
end Go.Proofs.YtafadpaljanghaaGreatDoor
namespace Go.Proofs.YtafadpaljanghaaGreatDoor
set_option linter.unusedSimpArgs false
open Go.RowKit
set_option linter.unusedVariables false

theorem C.drop_limbs : ∀ (q x : Nat), (C.limbs x).drop q = C.limbs (x / C.LB ^ q)
  | 0, x => by simp
  | q+1, x => by
    by_cases h : x = 0
    · subst h; rw [Nat.zero_div, C.limbs_zero]; simp
    · rw [C.limbs_pos h, List.drop_succ_cons, C.drop_limbs q, Nat.div_div_eq_div_mul, Nat.pow_succ, Nat.mul_comm]
theorem C.take_val : ∀ (q x : Nat), C.valOf ((C.limbs x).take q) = x % C.LB ^ q
  | 0, x => by rw [Nat.pow_zero, Nat.mod_one]; rfl
  | q+1, x => by
    by_cases h : x = 0
    · subst h; rw [C.limbs_zero]; simp [C.valOf]
    · rw [C.limbs_pos h, List.take_succ_cons]
      show x % C.LB + C.LB * C.valOf ((C.limbs (x / C.LB)).take q) = _
      rw [C.take_val q, Nat.pow_succ, Nat.mul_comm (C.LB ^ q), Nat.mod_mul]
theorem C.trim_take (q x : Nat) : C.trimN ((C.limbs x).take q) = C.limbs (x % C.LB ^ q) := by
  rw [C.trimN_limbs (fun y hy => C.limbs_lt x y (List.mem_of_mem_take hy)), C.take_val]
theorem C.zeros_limbs (N x : Nat) : C.trimN (List.replicate N 0 ++ C.limbs x) = C.limbs (x * C.LB ^ N) := by
  rw [C.trimN_limbs, C.valOf_append, C.valOf_zeros, List.length_replicate, C.valOf_limbs, Nat.zero_add, Nat.mul_comm]
  intro y hy
  rcases List.mem_append.1 hy with h | h
  · rw [List.eq_of_mem_replicate h]; decide
  · exact C.limbs_lt x y h
theorem shift_val (a n : Nat) : a * 2 ^ (n % 15) * C.LB ^ (n / 15) = a * 2 ^ n := by
  rw [C.LB_pow, Nat.mul_assoc, ← Nat.pow_add, Nat.add_comm, Nat.div_add_mod]
theorem r4trim_own {w : World} {base : Nat} {e : TypeId} {v : Value} {n x : Nat} {o : List Nat} (h : w.ownsRow base e 1 v n (o.map cv)) (ht : C.trimN o = C.limbs x) :
    Calls Tryz.prog 113 #[v] w fun e w' => (∃ r, e = .returned r ∧ LN w' r x) ∧ w = w' := by
  have hlen : o.length = n := by simpa using h.1
  have h' := h
  rcases h.2 with ⟨rfl, h1⟩ | ⟨g', cap, cur, rfl, k1, k2, k3, k4, _⟩
  · rw [h1] at h'
    have hT := r4trim_any none 0 0 o w (V.of_own h') (Nat.le_refl _) (by unfold maxLen; omega)
    rw [ht] at hT
    exact hT.mono fun e w2 h => by obtain ⟨⟨he, q1, q2⟩, rfl⟩ := h; exact ⟨⟨_, he, _, _, rfl, q1, by unfold maxLen; omega, q2⟩, rfl⟩
  · have hT := r4trim_any _ n cap o w (V.of_own h') k3 k4
    rw [ht] at hT
    exact hT.mono fun e w2 h => by obtain ⟨⟨he, q1, q2⟩, rfl⟩ := h; exact ⟨⟨_, he, _, _, rfl, q1, k4, q2⟩, rfl⟩
theorem LN.parts {w : World} {v : Value} {x : Nat} (h : LN w v x) : ∃ A c, v = .slice A (C.limbs x).length c ∧ (C.limbs x).length ≤ c ∧ c ≤ maxLen ∧ V w A (C.limbs x).length (C.limbs x) := h
set_option maxHeartbeats 1600000 in
set_option maxRecDepth 100000 in
theorem r4shift_any (v : Value) (a n : Nat) (w : World) (ha : LN w v a) (hna : (C.limbs a).length ≤ 9000) (hn : n ≤ 10000) (hl : (C.limbs (a * 2 ^ (n % 15))).length ≤ 9000) :
    Calls Tryz.prog 90 #[v, .int .i64 n] w fun e w' => (∃ r, e = .returned r ∧ LN w' r (a * 2 ^ n)) ∧ Below w.heap.size w w' := by
  obtain ⟨i0, hi0, hz0, hz1, hz2⟩ := info_parts infoI
  have HI : Sl _ := ⟨And.intro hi0 (And.intro hz0 (And.intro hz1 hz2))⟩
  clear hi0 hz0 hz1 hz2
  have hq : (n : Int).tdiv 15 = ((n / 15 : Nat) : Int) := by rw [Int.tdiv_eq_ediv_of_nonneg (by omega)]; omega
  have hr : (n : Int).tmod 15 = ((n % 15 : Nat) : Int) := by rw [Int.tmod_eq_emod_of_nonneg (by omega)]; omega
  have hr2 : n % 15 ≤ 14 := by omega
  have HZ : Sl _ := ⟨C.zeros_limbs (n / 15) (a * 2 ^ (n % 15))⟩
  rw [shift_val] at HZ
  have hqn : n / 15 ≤ 10000 := by omega
  have hp : 2 ^ (n % 15) ≤ 16384 := Nat.le_trans (Nat.pow_le_pow_right (by decide) hr2) (by decide)
  have HLL : Sl _ := ⟨hl⟩
  clear hl
  generalize n / 15 = Q at *
  generalize hrr : n % 15 = r at *
  have hmk := run_make_row' (P := Tryz.prog) 103 2 (.int .i64 0) 8 Tryz.underlying103 infoI rfl .i64 .i64 Q (by omega) (by omega)
  have R0 := World.rowIs_made w (.int .i64 0) Q 2
  have hu := (Below.refl w.heap.size w).alloc (Nat.le_refl _) (.cells (madeCells #[.int .i64 0] Q) 2)
  have HU : Sl _ := ⟨And.intro hu (And.intro R0 (ha.below hu))⟩
  have HLB : Sl _ := ⟨fun W : World => r4limbs_any (2 ^ r) W (by omega)⟩
  clear hu R0 ha
  obtain ⟨P, hP⟩ : ∃ P, 2 ^ r = P := ⟨_, rfl⟩
  have hPi : (2 : Int) ^ r = (P : Int) := by rw [← hP, Int.natCast_pow]; rfl
  rw [hP] at HZ HLB HLL hp
  clear hP
  go_enter Tryz.func90, Tryz.ntmps90
  go_wp2_with fail
  clear hmk
  generalize w.alloc (.cells (madeCells #[.int .i64 0] Q) 2) = w0 at *
  refine (HLB.out _).mono ?_; rintro e w1 ⟨⟨vl, rfl, hl1⟩, hb1⟩
  have hm := r4mul_any v vl a P w1 (HU.out.2.2.below hb1) hl1 (by omega) (by
    have : (C.limbs P).length ≤ 1 := C.limbs_len_le (by rw [C.LB_eq]; omega)
    omega)
  have HM : Sl _ := ⟨hm⟩
  have hB1 := HU.out.1.trans (hb1.mono HU.out.1.size)
  have R1 := HU.out.2.1.of_block (hb1.block _ HU.out.2.1.lt)
  have H1 : Sl _ := ⟨And.intro hB1 R1⟩
  clear hm hB1 R1 hb1 hl1 HU HLB
  go_wp2_with fail
  refine HM.out.mono ?_; rintro e w2 ⟨⟨vm, rfl, hm2⟩, hb2⟩
  have hB2 := H1.out.1.trans (hb2.mono H1.out.1.size)
  have R2 := H1.out.2.of_block (hb2.block _ H1.out.2.lt)
  have hown := own_of_row (base := w.heap.size) R2 (Nat.le_refl _) (by unfold maxLen; omega) (List.replicate Q 0) (by simp) (fun j hj => by simp [cv, hj])
  obtain ⟨A, c, rfl, hc1, hc2, hV⟩ := hm2.parts
  obtain ⟨m, hm⟩ : ∃ m, (C.limbs (a * P)).length = m := ⟨_, rfl⟩
  have hml := HLL.out
  rw [hm] at hV hc1 hml ⊢
  have HM2 : Sl _ := ⟨And.intro hV (And.intro hown hB2)⟩
  have hsz := hB2.size
  clear hB2 R2 hown hV hm2 hb2 HM H1 hm
  go_wp2_with (at_builtin; go_loud (refine wpList_append_any _ rfl (.tmp 9) (.tmp 16) _ rfl w.heap.size 2 i0 _ 1 8 Tryz.underlying103 HI.out.1 HI.out.2.1 HI.out.2.2.1 HI.out.2.2.2 rfl (by decide) _ Q _ rfl HM2.out.2.1 _ _ m _ _ rfl HM2.out.1 (all_cv _) (by unfold maxLen; omega) (by omega) hsz ?_; intro v1 w3 hown1 hg1 hat1))
  have hown := HM2.out.2.1.lt
  have hB3 := HM2.out.2.2.grown hg1 hsz (fun k hk => (hown k hk).1)
  rw [← List.map_append] at hown1
  have HT : Sl _ := ⟨And.intro (r4trim_own hown1 HZ.out) hB3⟩
  clear hown1 hg1 hat1 hown hB3
  refine HT.out.1.mono ?_; rintro e w4 ⟨⟨r2, rfl, hr2⟩, rfl⟩
  go_wp2_with fail
  go_ret
  exact ⟨⟨_, rfl, hr2⟩, HT.out.2⟩
end Go.Proofs.YtafadpaljanghaaGreatDoor
