/- Plain facts on limbs of 15 bits (chapter 04's reference), the lowest first. Printed from NatL (the same facts of limbs of 32 bits). No program in sight. The reference of chapter 04: whole numbers as limbs of 15 bits in memory; plain facts on them. The reference of chapter 04: trim, limbs, cmp. The reference of chapter 04: carry, add, mul. The reference of chapter 04: add, mul. The reference of chapter 04: mul. The reference of chapter 04: shift, square, halve. -/
import Derived.Test.YtalodfjplegibaaGreatDoorNatL
import Derived.Test.YtalodfjplegibaaGreatDoorBase
namespace Go.Proofs.YtalodfjplegibaaGreatDoor.C
set_option linter.unusedSimpArgs false
set_option linter.unusedVariables false
def LB : Nat := 32768
theorem LB_pos : 0 < LB := by decide
theorem LB_eq : LB = 32768 := rfl
/-- the number that limbs say -/
def valOf : List Nat → Nat
  | [] => 0
  | x :: r => x + LB * valOf r
/-- the limbs of a number, without a last 0 -/
def limbs (n : Nat) : List Nat := if _h : n = 0 then [] else n % LB :: limbs (n / LB)
termination_by n
decreasing_by exact Nat.div_lt_self (by omega) (by decide)
/-- without limbs 0 at the end -/
def trimN (l : List Nat) : List Nat := (l.reverse.dropWhile (· == 0)).reverse

theorem limbs_zero : limbs 0 = [] := by rw [limbs]; simp
theorem limbs_pos {n : Nat} (h : n ≠ 0) : limbs n = n % LB :: limbs (n / LB) := by rw [limbs]; simp [h]
theorem valOf_limbs (n : Nat) : valOf (limbs n) = n := by
  induction n using Nat.strongRecOn with
  | _ n ih =>
    by_cases h : n = 0
    · subst h; rw [limbs_zero]; rfl
    · rw [limbs_pos h]; show n % LB + LB * valOf (limbs (n / LB)) = n
      rw [ih _ (Nat.div_lt_self (by omega) (by decide))]; exact Nat.mod_add_div n LB
theorem limbs_lt (n : Nat) : ∀ x ∈ limbs n, x < LB := by
  induction n using Nat.strongRecOn with
  | _ n ih =>
    by_cases h : n = 0
    · subst h; rw [limbs_zero]; simp
    · rw [limbs_pos h]; intro x hx
      rcases List.mem_cons.1 hx with rfl | hx
      · exact Nat.mod_lt _ LB_pos
      · exact ih _ (Nat.div_lt_self (by omega) (by decide)) x hx
theorem valOf_append (a b : List Nat) : valOf (a ++ b) = valOf a + LB ^ a.length * valOf b := by
  induction a with
  | nil => simp [valOf]
  | cons x r ih => simp only [List.cons_append, valOf, ih, List.length_cons, Nat.pow_succ, Nat.mul_add]; rw [Nat.mul_comm (LB ^ r.length) LB, Nat.mul_assoc]; omega
theorem valOf_snoc (a : List Nat) (x : Nat) : valOf (a ++ [x]) = valOf a + LB ^ a.length * x := by rw [valOf_append]; simp [valOf]
theorem valOf_lt (l : List Nat) (h : ∀ x ∈ l, x < LB) : valOf l < LB ^ l.length := by
  induction l with
  | nil => simp [valOf]
  | cons x r ih =>
    have h1 := ih (fun y hy => h y (List.mem_cons_of_mem _ hy))
    have h2 := h x (List.mem_cons_self ..)
    simp only [valOf, List.length_cons, Nat.pow_succ]
    have : LB * (valOf r + 1) ≤ LB * LB ^ r.length := Nat.mul_le_mul_left _ h1
    rw [Nat.mul_comm (LB ^ r.length)]
    rw [Nat.mul_add] at this; omega
theorem valOf_cons_mod (x : Nat) (r : List Nat) (h : x < LB) : (x + LB * valOf r) % LB = x := by rw [Nat.add_mul_mod_self_left, Nat.mod_eq_of_lt h]
theorem valOf_cons_div (x : Nat) (r : List Nat) (h : x < LB) : (x + LB * valOf r) / LB = valOf r := by rw [Nat.add_mul_div_left _ _ LB_pos, Nat.div_eq_of_lt h, Nat.zero_add]

theorem trimN_nil : trimN [] = [] := rfl
theorem trimN_snoc0 (l : List Nat) : trimN (l ++ [0]) = trimN l := by simp [trimN]
theorem trimN_snoc (l : List Nat) (x : Nat) (h : x ≠ 0) : trimN (l ++ [x]) = l ++ [x] := by simp [trimN, h]
theorem take_trim0 (l : List Nat) (n : Nat) (hn : n < l.length) (h : l[n]?.getD 0 = 0) : trimN (l.take (n+1)) = trimN (l.take n) := by
  rw [List.take_succ_eq_append_getElem hn]
  have : l[n] = 0 := by simpa [hn] using h
  rw [this, trimN_snoc0]
theorem take_trim1 (l : List Nat) (n : Nat) (hn : n < l.length) (h : l[n]?.getD 0 ≠ 0) : trimN (l.take (n+1)) = l.take (n+1) := by
  rw [List.take_succ_eq_append_getElem hn]
  have : l[n] ≠ 0 := by simpa [hn] using h
  rw [trimN_snoc _ _ this]
theorem rev_ind {α : Type} {P : List α → Prop} (h0 : P []) (h1 : ∀ l x, P l → P (l ++ [x])) (l : List α) : P l := by
  have key : ∀ r : List α, P r.reverse := by
    intro r
    induction r with
    | nil => exact h0
    | cons x r ih => rw [List.reverse_cons]; exact h1 _ _ ih
  have := key l.reverse
  rwa [List.reverse_reverse] at this
/-- a list of limbs is that of its number if its last one is not 0 -/
def Norm (l : List Nat) : Prop := (∀ x ∈ l, x < LB) ∧ l.getLast? ≠ some 0
theorem limbs_norm (n : Nat) : Norm (limbs n) := by
  refine ⟨limbs_lt n, ?_⟩
  induction n using Nat.strongRecOn with
  | _ n ih =>
    by_cases h : n = 0
    · subst h; rw [limbs_zero]; simp
    · rw [limbs_pos h]
      by_cases h2 : n / LB = 0
      · rw [h2, limbs_zero]
        have : n < LB := by
          rcases Nat.lt_or_ge n LB with h3 | h3
          · exact h3
          · have := Nat.div_pos h3 LB_pos; omega
        rw [Nat.mod_eq_of_lt this]; simp [h]
      · have := ih (n / LB) (Nat.div_lt_self (by omega) (by decide))
        rw [limbs_pos h2] at this ⊢
        simpa using this
theorem norm_limbs {l : List Nat} (h : Norm l) : l = limbs (valOf l) := by
  obtain ⟨h1, h2⟩ := h
  induction l with
  | nil => simp [valOf, limbs_zero]
  | cons x r ih =>
    have hx := h1 x (List.mem_cons_self ..)
    have hr : ∀ y ∈ r, y < LB := fun y hy => h1 y (List.mem_cons_of_mem _ hy)
    have hl : r.getLast? ≠ some 0 := by
      cases r with
      | nil => simp
      | cons y s => simpa using h2
    have e := ih hr hl
    have hne : x + LB * valOf r ≠ 0 := by
      intro h0
      have hx0 : x = 0 := by omega
      have hv : valOf r = 0 := by
        rcases Nat.eq_zero_or_pos (valOf r) with h3 | h3
        · exact h3
        · have := Nat.mul_pos LB_pos h3; omega
      rw [hv, limbs_zero] at e
      subst e; subst hx0; simp at h2
    show x :: r = limbs (x + LB * valOf r)
    rw [limbs_pos hne, valOf_cons_mod _ _ hx, valOf_cons_div _ _ hx, ← e]
theorem trimN_val (l : List Nat) : valOf (trimN l) = valOf l := by
  refine rev_ind (P := fun l => valOf (trimN l) = valOf l) rfl (fun l x ih => ?_) l
  · by_cases h : x = 0
    · subst h; rw [trimN_snoc0, ih, valOf_snoc]; simp
    · rw [trimN_snoc _ _ h]
theorem trimN_mem (l : List Nat) : ∀ x ∈ trimN l, x ∈ l := by
  intro x hx
  have : x ∈ l.reverse.dropWhile (· == 0) := by simpa [trimN] using hx
  simpa using (List.dropWhile_sublist _).mem this
theorem trimN_last (l : List Nat) : (trimN l).getLast? ≠ some 0 := by
  refine rev_ind (P := fun l => (trimN l).getLast? ≠ some 0) (by simp [trimN]) (fun l x ih => ?_) l
  · by_cases h : x = 0
    · subst h; rw [trimN_snoc0]; exact ih
    · rw [trimN_snoc _ _ h]; simp [h]
theorem trimN_limbs {l : List Nat} (h : ∀ x ∈ l, x < LB) : trimN l = limbs (valOf l) := by
  have := norm_limbs (l := trimN l) ⟨fun x hx => h x (trimN_mem l x hx), trimN_last l⟩
  rw [trimN_val] at this; exact this
theorem limbs_len_le {n k : Nat} (h : n < LB ^ k) : (limbs n).length ≤ k := by
  induction k generalizing n with
  | zero => have : n = 0 := by simpa using h
            subst this; simp [limbs_zero]
  | succ k ih =>
    by_cases h0 : n = 0
    · subst h0; simp [limbs_zero]
    · rw [limbs_pos h0, List.length_cons]
      have := ih (n := n / LB) (Nat.div_lt_of_lt_mul (by rw [Nat.pow_succ, Nat.mul_comm] at h; exact h))
      omega
theorem lt_limbs_len (n : Nat) : n < LB ^ (limbs n).length := by
  have := valOf_lt (limbs n) (limbs_lt n); rwa [valOf_limbs] at this
theorem limbs_len_iff {n k : Nat} : (limbs n).length ≤ k ↔ n < LB ^ k :=
  ⟨fun h => Nat.lt_of_lt_of_le (lt_limbs_len n) (Nat.pow_le_pow_right LB_pos h), limbs_len_le⟩
theorem limbs_nil_iff {n : Nat} : limbs n = [] ↔ n = 0 := by
  constructor
  · intro h; have := valOf_limbs n; rw [h] at this; exact this.symm
  · rintro rfl; exact limbs_zero
theorem limbs_inj {a b : Nat} (h : limbs a = limbs b) : a = b := by rw [← valOf_limbs a, h, valOf_limbs]
theorem len_pos_iff {n : Nat} : 0 < (limbs n).length ↔ n ≠ 0 := by
  constructor
  · intro h h0; subst h0; simp [limbs_zero] at h
  · intro h; rw [limbs_pos h]; simp
/-- the number is at least the weight of its highest limb -/
theorem limbs_ge {n k : Nat} (h : k < (limbs n).length) : LB ^ k ≤ n := by
  rcases Nat.lt_or_ge n (LB ^ k) with h1 | h1
  · have := limbs_len_le h1; omega
  · exact h1
theorem valOf_split (l : List Nat) (j : Nat) (hj : j < l.length) : valOf l = valOf (l.take j) + LB ^ j * (l[j]?.getD 0 + LB * valOf (l.drop (j+1))) := by
  have e : l = l.take j ++ (l[j] :: l.drop (j+1)) := by rw [← List.drop_eq_getElem_cons hj, List.take_append_drop]
  have h1 : (l.take j).length = j := by simp; omega
  have e2 := congrArg valOf e
  rw [valOf_append, h1] at e2
  rw [e2, List.getElem?_eq_getElem hj]; rfl
theorem valOf_lt_of {la lb : List Nat} {j : Nat} (hl : la.length = lb.length) (hj : j < la.length) (ha : ∀ x ∈ la, x < LB)
    (hd : la.drop (j+1) = lb.drop (j+1)) (hlt : la[j]?.getD 0 < lb[j]?.getD 0) : valOf la < valOf lb := by
  rw [valOf_split la j hj, valOf_split lb j (by omega), hd]
  have h1 : valOf (la.take j) < LB ^ (la.take j).length := valOf_lt _ (fun x hx => ha x (List.mem_of_mem_take hx))
  have h2 : (la.take j).length = j := by simp; omega
  rw [h2] at h1
  have h3 : LB ^ j * (la[j]?.getD 0 + LB * valOf (lb.drop (j+1)) + 1) ≤ LB ^ j * (lb[j]?.getD 0 + LB * valOf (lb.drop (j+1))) := Nat.mul_le_mul_left _ (by omega)
  rw [Nat.mul_add _ _ 1] at h3
  omega
theorem drop_step {la lb : List Nat} {j : Nat} (hl : la.length = lb.length) (hj : j < la.length) (hd : la.drop (j+1) = lb.drop (j+1)) (he : la[j]?.getD 0 = lb[j]?.getD 0) : la.drop j = lb.drop j := by
  rw [List.drop_eq_getElem_cons hj, List.drop_eq_getElem_cons (show j < lb.length by omega), hd]
  congr 1
  rw [List.getElem?_eq_getElem hj, List.getElem?_eq_getElem (show j < lb.length by omega)] at he
  simpa using he
theorem limbs_len_lt {a b : Nat} (h : (limbs a).length < (limbs b).length) : a < b := by
  have h1 := lt_limbs_len a
  have h2 := limbs_ge h
  omega
theorem valOf_set (l : List Nat) (j v : Nat) (hj : j < l.length) : valOf (l.set j v) + LB ^ j * l[j]?.getD 0 = valOf l + LB ^ j * v := by
  have h1 := valOf_split l j hj
  have h2 := valOf_split (l.set j v) j (by simpa using hj)
  have e1 : (l.set j v).take j = l.take j := by rw [List.take_set_of_le (Nat.le_refl _)]
  have e2 : (l.set j v).drop (j+1) = l.drop (j+1) := by rw [List.drop_set_of_lt (by omega)]
  have e3 : (l.set j v)[j]?.getD 0 = v := by simp [hj]
  rw [e1, e2, e3] at h2
  rw [h1, h2, Nat.mul_add, Nat.mul_add]
  omega
theorem valOf_zeros (n : Nat) : valOf (List.replicate n 0) = 0 := by
  induction n with
  | zero => rfl
  | succ n ih => rw [List.replicate_succ]; simp [valOf, ih]
theorem valOf_take_succ (l : List Nat) (i : Nat) (hi : i < l.length) : valOf (l.take (i+1)) = valOf (l.take i) + LB ^ i * l[i]?.getD 0 := by
  rw [List.take_succ_eq_append_getElem hi, valOf_snoc, List.getElem?_eq_getElem hi]
  have : (l.take i).length = i := by simp; omega
  rw [this]; rfl
theorem LB_two : LB = 2 ^ 15 := by decide
theorem LB_pow (q : Nat) : LB ^ q = 2 ^ (15 * q) := by rw [LB_two, ← Nat.pow_mul]
theorem valOf_drop (l : List Nat) (h : ∀ x ∈ l, x < LB) (q : Nat) : valOf (l.drop q) = valOf l / LB ^ q := by
  induction q generalizing l with
  | zero => simp
  | succ q ih =>
    cases l with
    | nil => simp [valOf]
    | cons x t =>
      have hx := h x (List.mem_cons_self ..)
      rw [List.drop_succ_cons, ih t (fun y hy => h y (List.mem_cons_of_mem _ hy))]
      show _ = (x + LB * valOf t) / LB ^ (q+1)
      rw [Nat.pow_succ, Nat.mul_comm (LB ^ q), ← Nat.div_div_eq_div_mul, valOf_cons_div _ _ hx]
theorem take_snoc_get {l : List Nat} {i x : Nat} (h : l[i]? = some x) : l.take (i+1) = l.take i ++ [x] := by
  have hi : i < l.length := by
    rcases Nat.lt_or_ge i l.length with h1 | h1
    · exact h1
    · rw [List.getElem?_eq_none h1] at h; cases h
  rw [List.getElem?_eq_getElem hi] at h
  cases h
  rw [List.take_succ_eq_append_getElem hi]
end Go.Proofs.YtalodfjplegibaaGreatDoor.C
namespace Go.Proofs.YtalodfjplegibaaGreatDoor
set_option linter.unusedSimpArgs false
open Go.RowKit
set_option linter.unusedVariables false

def cv (x : Nat) : Value := .int .i64 (x : Int)
/-- a slice that reads as whole numbers -/
def V (w : World) (A : Option Addr) (n : Nat) (l : List Nat) : Prop := Reads w w.heap.size 1 A n (l.map cv)
section
variable {w w' : World} {A : Option Addr} {n : Nat} {l : List Nat}
theorem V.len (h : V w A n l) : l.length = n := by simpa using h.1
theorem V.cell (h : V w A n l) {k : Nat} (hk : k < n) : ∃ ad, A = some ad ∧ ad.block < w.heap.size ∧ w.cell? (ad.add k) = some (.int .i64 (l[k]?.getD 0 : Nat)) := by
  obtain ⟨ad, u, rfl, hb, hx, hc⟩ := h.at_ hk
  refine ⟨ad, rfl, hb, hc.trans ?_⟩
  rw [← hx]
  have : k < l.length := by have := h.len; omega
  simp [cv, this]
theorem V.below (h : V w A n l) (hb : Below w.heap.size w w') : V w' A n l := (Reads.below h hb).more hb.size
theorem V.drewN (h : V w A n l) (k : Nat) : V (w.drewN k) A n l := Reads.drewN h k
theorem V.take (h : V w A n l) {k : Nat} (hk : k ≤ n) : V w A k (l.take k) := by
  have hl := h.len
  refine ⟨by simp; omega, fun h0 => ?_⟩
  obtain ⟨ad, e, hb, hc⟩ := h.2 (by omega)
  refine ⟨ad, e, hb, fun j u hu => hc j u ?_⟩
  rw [List.map_take] at hu
  rw [List.getElem?_take] at hu
  split at hu
  · exact hu
  · cases hu
theorem V.cut (h : V w A n l) {k cap : Nat} (hk : k ≤ n) (hc : n ≤ cap) : V w (if cap = k then A else A.map (·.add k)) (n - k) (l.drop k) := by
  have := Reads.cut h hk hc
  rw [Nat.mul_one, ← List.map_drop] at this
  exact this
theorem V.nil : V w none 0 [] := Reads.none_
theorem V.zero (A : Option Addr) : V w A 0 [] := ⟨by simp, fun h => absurd h (by omega)⟩
theorem V.of_own {base : Nat} {e : TypeId} {c : Nat} (h : w.ownsRow base e 1 (.slice A n c) n (l.map cv)) : V w A n l := Reads.of_own h
theorem V.of_row {g N : Nat} {t : TypeId} {f : Nat → Value} (h : w.rowIs g t N f) (hn : n ≤ N) (hl : l.length = n) (hf : ∀ j, j < n → f j = cv (l[j]?.getD 0)) : V w (some ⟨g, 0, none⟩) n l := by
  refine ⟨by simp [hl], fun _ => ⟨_, rfl, h.lt, fun j u hu => ?_⟩⟩
  have hj : j < l.length := by
    rcases Nat.lt_or_ge j l.length with h1 | h1
    · exact h1
    · rw [List.getElem?_eq_none (by simpa using h1)] at hu; cases hu
  have := h.cell (i := j) (by omega)
  rw [List.getElem?_map, List.getElem?_eq_getElem hj] at hu
  simp at hu; subst hu
  have e : (Addr.add ⟨g, 0, none⟩ j) = ⟨g, j, none⟩ := by unfold Addr.add; split <;> simp_all
  rw [e, this, hf j (by omega), List.getElem?_eq_getElem hj]; rfl
end
/-- a slice that holds a number -/
def LN (w : World) (v : Value) (x : Nat) : Prop := ∃ A c, v = .slice A (C.limbs x).length c ∧ (C.limbs x).length ≤ c ∧ c ≤ maxLen ∧ V w A (C.limbs x).length (C.limbs x)
theorem LN.below {w w' : World} {v : Value} {x : Nat} (h : LN w v x) (hb : Below w.heap.size w w') : LN w' v x := by
  obtain ⟨A, c, h1, h2, h3, h4⟩ := h
  exact ⟨A, c, h1, h2, h3, h4.below hb⟩
theorem LN.nil (w : World) : LN w (.slice none 0 0) 0 := by
  unfold LN
  rw [C.limbs_zero]
  exact ⟨none, 0, rfl, Nat.le_refl _, by unfold maxLen; omega, V.nil⟩
theorem LN.own {w : World} {base : Nat} {e : TypeId} {v : Value} {n x : Nat} (h : w.ownsRow base e 1 v n ((C.limbs x).map cv)) : LN w v x := by
  have hn : (C.limbs x).length = n := by simpa using h.1
  subst hn
  have h' := h
  rcases h.2 with ⟨rfl, h0⟩ | ⟨g, cap, cur, rfl, _, _, h1, h2, _⟩
  · rw [h0] at h'
    exact ⟨none, 0, by rw [h0], by omega, by unfold maxLen; omega, by rw [h0]; exact V.of_own h'⟩
  · exact ⟨_, cap, rfl, h1, h2, V.of_own h⟩
/-- the ways of a row made by make -/
theorem own_of_row {w : World} {base g n : Nat} {t : TypeId} {f : Nat → Value} (h : w.rowIs g t n f) (hb : base ≤ g) (hn : n ≤ maxLen) (l : List Nat) (hl : l.length = n) (hf : ∀ j, j < n → f j = cv (l[j]?.getD 0)) :
    w.ownsRow base t 1 (.slice (some ⟨g, 0, none⟩) n n) n (l.map cv) := by
  obtain ⟨c, hc, hs, hi⟩ := h
  refine ⟨by simp [hl], .inr ⟨g, n, c, rfl, hb, hc, Nat.le_refl _, hn, by omega, ?_⟩⟩
  apply List.ext_getElem?
  intro j
  rw [Nat.mul_one]
  rcases Nat.lt_or_ge j n with h1 | h1
  · rw [List.getElem?_take, if_pos h1, Array.getElem?_toList, hi j h1, hf j h1, List.getElem?_map, List.getElem?_eq_getElem (by omega)]
    rfl
  · rw [List.getElem?_eq_none (by simp; omega), List.getElem?_eq_none (by simp; omega)]
theorem ret_num {k : IntKind} {a b : Int} (h : a = b) : Value.int k a = .int k b := by rw [h]
theorem infoI : (Tryz.prog.info? 2).map (fun i => (i.zero, i.size, i.bytes)) = some (some (.int .i64 0), 1, 8) := by kernel_rfl
theorem V_one (w : World) (x : Nat) (t : TypeId) : V (w.alloc (.cells #[.int .i64 (x : Int)] t)) (some ⟨w.heap.size, 0, none⟩) 1 [x] := by
  refine V.of_row (World.rowIs_alloc w #[.int .i64 (x : Int)] t (fun _ => .int .i64 (x : Int)) (fun i hi => ?_)) (Nat.le_refl _) rfl (fun j hj => ?_)
  · simp at hi; subst hi; rfl
  · obtain rfl : j = 0 := by simp at hj; omega
    rfl
theorem one_cv (r : Nat) : ∀ u ∈ [r].map cv, u.oneCell' = true := by intro u hu; simp [cv] at hu; subst hu; rfl
theorem all_cv (l : List Nat) : ∀ u ∈ l.map cv, u.oneCell' = true := by intro u hu; obtain ⟨x, _, rfl⟩ := List.mem_map.1 hu; rfl
theorem C.all_snoc {o : List Nat} {r : Nat} (h : ∀ x ∈ o, x < C.LB) (hr : r < C.LB) : ∀ x ∈ o ++ [r], x < C.LB := by
  intro x hx
  rcases List.mem_append.1 hx with h1 | h1
  · exact h x h1
  · simp at h1; omega

/- plain facts -/
/-- a limb more of a carry under way -/
theorem carry_step {V' A x c i : Nat} (h : V' + C.LB ^ i * c = A) : (V' + C.LB ^ i * ((c + x) % C.LB)) + C.LB ^ (i+1) * ((c + x) / C.LB) = A + C.LB ^ i * x := by
  have e := Nat.mod_add_div (c + x) C.LB
  rw [Nat.pow_succ]
  generalize C.LB ^ i = P at *
  generalize (c + x) % C.LB = r at *
  generalize (c + x) / C.LB = q at *
  have : P * (r + C.LB * q) = P * (c + x) := by rw [e]
  simp only [Nat.mul_add] at this
  rw [Nat.mul_assoc]
  omega
theorem limbs_step {o : List Nat} {n x : Nat} (h : o ++ C.limbs n = C.limbs x) (h0 : n ≠ 0) : (o ++ [n % C.LB]) ++ C.limbs (n / C.LB) = C.limbs x := by
  rw [← h, C.limbs_pos h0, List.append_assoc]; rfl
end Go.Proofs.YtalodfjplegibaaGreatDoor
namespace Go.Proofs.YtalodfjplegibaaGreatDoor
set_option linter.unusedSimpArgs false
open Go.RowKit
set_option linter.unusedVariables false

theorem LN.step_len {o : List Nat} {n x : Nat} (h : o ++ C.limbs n = C.limbs x) (hx : x < 9223372036854775808) : o.length ≤ 5 := by
  have h1 : (C.limbs x).length ≤ 5 := C.limbs_len_le (by rw [C.LB_eq]; omega)
  rw [← h, List.length_append] at h1
  omega
end Go.Proofs.YtalodfjplegibaaGreatDoor
namespace Go.Proofs.YtalodfjplegibaaGreatDoor
set_option linter.unusedSimpArgs false
open Go.RowKit
set_option linter.unusedVariables false

/-- the number that n places of a row say -/
def C.sumF (f : Nat → Nat) : Nat → Nat
  | 0 => 0
  | n+1 => C.sumF f n + C.LB ^ n * f n
theorem C.sumF_congr {f g : Nat → Nat} : ∀ n, (∀ j, j < n → f j = g j) → C.sumF f n = C.sumF g n
  | 0, _ => rfl
  | n+1, h => by rw [C.sumF, C.sumF, C.sumF_congr n (fun j hj => h j (by omega)), h n (by omega)]
theorem C.sumF_list (l : List Nat) : ∀ n, C.sumF (fun j => l[j]?.getD 0) n = C.valOf (l.take n)
  | 0 => by simp [C.sumF, C.valOf]
  | n+1 => by
    rw [C.sumF, C.sumF_list l n]
    rcases Nat.lt_or_ge n l.length with h | h
    · rw [C.valOf_take_succ l n h]
    · rw [List.take_of_length_le h, List.take_of_length_le (Nat.le_succ_of_le h), List.getElem?_eq_none h]; simp
theorem C.sumF_add (f g : Nat → Nat) : ∀ n, C.sumF (fun j => f j + g j) n = C.sumF f n + C.sumF g n
  | 0 => rfl
  | n+1 => by rw [C.sumF, C.sumF, C.sumF, C.sumF_add f g n, Nat.mul_add]; omega
theorem C.sumF_zero : ∀ n, C.sumF (fun _ => 0) n = 0
  | 0 => rfl
  | n+1 => by rw [C.sumF, C.sumF_zero n]; rfl
theorem C.sumF_put (f : Nat → Nat) (p x : Nat) : ∀ n, p < n → C.sumF (fun j => if j = p then f p + x else f j) n = C.sumF f n + C.LB ^ p * x
  | 0, h => absurd h (Nat.not_lt_zero _)
  | n+1, h => by
    rw [C.sumF, C.sumF]
    by_cases e : n = p
    · subst e
      rw [if_pos rfl, C.sumF_congr (g := f) n (fun j hj => if_neg (by omega)), Nat.mul_add]; omega
    · rw [if_neg e, C.sumF_put f p x n (by omega)]; omega
theorem C.list_sum {l : List Nat} {n : Nat} (h : l.length ≤ n) : C.sumF (fun j => l[j]?.getD 0) n = C.valOf l := by
  rw [C.sumF_list, List.take_of_length_le h]

theorem carry_more {c t : Nat} (h : c < C.LB ^ (4 - t)) (h0 : 0 < c) : t < 4 ∧ c / C.LB < C.LB ^ (4 - (t + 1)) := by
  have ht : t < 4 := by
    rcases Nat.lt_or_ge t 4 with h1 | h1
    · exact h1
    · rw [show 4 - t = 0 by omega, Nat.pow_zero] at h; omega
  refine ⟨ht, ?_⟩
  rw [show 4 - t = (4 - (t + 1)) + 1 by omega, Nat.pow_succ, Nat.mul_comm] at h
  exact Nat.div_lt_of_lt_mul h
end Go.Proofs.YtalodfjplegibaaGreatDoor
namespace Go.Proofs.YtalodfjplegibaaGreatDoor
set_option linter.unusedSimpArgs false
open Go.RowKit
set_option linter.unusedVariables false

theorem cv_num {a b : Nat} (h : a = b) : cv a = cv b := by rw [h]
end Go.Proofs.YtalodfjplegibaaGreatDoor
namespace Go.Proofs.YtalodfjplegibaaGreatDoor
set_option linter.unusedSimpArgs false
open Go.RowKit
set_option linter.unusedVariables false

theorem C.lim_le (a : Nat) (j : Nat) : (C.limbs a)[j]?.getD 0 ≤ 32767 := by
  by_cases h : j < (C.limbs a).length
  · rw [List.getElem?_eq_getElem h]
    have := C.limbs_lt a _ (List.getElem_mem h)
    rw [C.LB_eq] at this; simp; omega
  · rw [List.getElem?_eq_none (by omega)]; exact Nat.zero_le _
/-- a product under way -/
structure MulI (la lb : List Nat) (N i k : Nat) (F : Nat → Nat) : Prop where
  val : C.sumF F N = C.valOf (la.take i) * C.valOf lb + C.LB ^ i * (la[i]?.getD 0 * C.valOf (lb.take k))
  le : ∀ j, F j ≤ 1073741824 * i + (if j < i + k then 1073741824 else 0)
theorem MulI.step {la lb : List Nat} {N i k x y : Nat} {F : Nat → Nat} (h : MulI la lb N i k F) (hk : k < lb.length) (hN : i + k < N) (hx : la[i]?.getD 0 = x) (hy : lb[k]?.getD 0 = y) (hx1 : x ≤ 32767) (hy1 : y ≤ 32767) :
    MulI la lb N i (k + 1) (fun j => if j = i + k then F (i + k) + x * y else F j) ∧ F (i + k) + x * y ≤ 1073741824 * i + 1073741824 := by
  have hxy : x * y ≤ 32767 * 32767 := Nat.mul_le_mul hx1 hy1
  have hl := h.le (i + k)
  rw [if_neg (Nat.lt_irrefl _)] at hl
  refine ⟨⟨?_, fun j => ?_⟩, by omega⟩
  · rw [C.sumF_put F (i + k) (x * y) N hN, h.val, C.valOf_take_succ lb k hk, hy, hx, Nat.mul_add x, Nat.mul_add (C.LB ^ i), Nat.pow_add, Nat.add_assoc]
    congr 2
    rw [Nat.mul_assoc]
    congr 1
    rw [Nat.mul_left_comm]
  · by_cases e : j = i + k
    · rw [if_pos e, if_pos (by omega)]
      omega
    · rw [if_neg e]
      have := h.le j
      by_cases e2 : j < i + k
      · rw [if_pos e2] at this
        rw [if_pos (by omega)]; exact this
      · rw [if_neg e2] at this
        rw [if_neg (by omega)]; exact this
theorem MulI.done {la lb : List Nat} {N i : Nat} {F : Nat → Nat} (h : MulI la lb N i lb.length F) (hi : i < la.length) : MulI la lb N (i + 1) 0 F := by
  refine ⟨?_, fun j => ?_⟩
  · rw [h.val, C.valOf_take_succ la i hi, List.take_of_length_le (Nat.le_refl _)]
    simp [C.valOf, Nat.add_mul, Nat.mul_assoc]
  · have := h.le j
    have h2 : F j ≤ 1073741824 * i + 1073741824 := by
      refine Nat.le_trans this ?_
      split <;> omega
    refine Nat.le_trans h2 ?_
    have : 1073741824 * (i + 1) = 1073741824 * i + 1073741824 := by omega
    omega
theorem MulI.start (la lb : List Nat) (N : Nat) : MulI la lb N 0 0 (fun _ => 0) := ⟨by rw [C.sumF_zero]; simp [C.valOf], fun j => Nat.zero_le _⟩
end Go.Proofs.YtalodfjplegibaaGreatDoor
namespace Go.Proofs.YtalodfjplegibaaGreatDoor
set_option linter.unusedSimpArgs false
open Go.RowKit
set_option linter.unusedVariables false

theorem C.drop_limbs : ∀ (q x : Nat), (C.limbs x).drop q = C.limbs (x / C.LB ^ q)
  | 0, x => by simp
  | q+1, x => by
    by_cases h : x = 0
    · subst h; rw [Nat.zero_div, C.limbs_zero]; simp
    · rw [C.limbs_pos h, List.drop_succ_cons, C.drop_limbs q, Nat.div_div_eq_div_mul, Nat.pow_succ, Nat.mul_comm]
theorem C.take_val : ∀ (q x : Nat), C.valOf ((C.limbs x).take q) = x % C.LB ^ q
  | 0, x => by rw [Nat.pow_zero, Nat.mod_one]; rfl
  | q+1, x => by
    by_cases h : x = 0
    · subst h; rw [C.limbs_zero]; simp [C.valOf]
    · rw [C.limbs_pos h, List.take_succ_cons]
      show x % C.LB + C.LB * C.valOf ((C.limbs (x / C.LB)).take q) = _
      rw [C.take_val q, Nat.pow_succ, Nat.mul_comm (C.LB ^ q), Nat.mod_mul]
theorem C.trim_take (q x : Nat) : C.trimN ((C.limbs x).take q) = C.limbs (x % C.LB ^ q) := by
  rw [C.trimN_limbs (fun y hy => C.limbs_lt x y (List.mem_of_mem_take hy)), C.take_val]
theorem C.zeros_limbs (N x : Nat) : C.trimN (List.replicate N 0 ++ C.limbs x) = C.limbs (x * C.LB ^ N) := by
  rw [C.trimN_limbs, C.valOf_append, C.valOf_zeros, List.length_replicate, C.valOf_limbs, Nat.zero_add, Nat.mul_comm]
  intro y hy
  rcases List.mem_append.1 hy with h | h
  · rw [List.eq_of_mem_replicate h]; decide
  · exact C.limbs_lt x y h
theorem shift_val (a n : Nat) : a * 2 ^ (n % 15) * C.LB ^ (n / 15) = a * 2 ^ n := by
  rw [C.LB_pow, Nat.mul_assoc, ← Nat.pow_add, Nat.add_comm, Nat.div_add_mod]
theorem LN.parts {w : World} {v : Value} {x : Nat} (h : LN w v x) : ∃ A c, v = .slice A (C.limbs x).length c ∧ (C.limbs x).length ≤ c ∧ c ≤ maxLen ∧ V w A (C.limbs x).length (C.limbs x) := h
end Go.Proofs.YtalodfjplegibaaGreatDoor
