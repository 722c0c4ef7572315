/- Plain facts for the reference: limbs behind the last one are 0. No program in sight. -/
import Derived.Test.YtgjbaamhpapeeaaGreatDoorNatN
namespace Go.Proofs.YtgjbaamhpapeeaaGreatDoor
set_option linter.unusedSimpArgs false
set_option linter.unusedVariables false
/-- the limb at a place, 0 behind the last one -/
def lim (l : List Nat) (i : Nat) : Nat := l[i]?.getD 0
theorem lim_lt {l : List Nat} (h : ∀ x ∈ l, x < LB) (i : Nat) : lim l i < LB := by
  unfold lim
  by_cases hk : i < l.length
  · rw [List.getElem?_eq_getElem hk]; exact h _ (List.getElem_mem _)
  · rw [List.getElem?_eq_none (by omega)]; decide
theorem lim_out {l : List Nat} {i : Nat} (h : l.length ≤ i) : lim l i = 0 := by unfold lim; rw [List.getElem?_eq_none h]; rfl
theorem valOf_take_lim (l : List Nat) (i : Nat) : valOf (l.take (i+1)) = valOf (l.take i) + LB ^ i * lim l i := by
  by_cases h : i < l.length
  · exact valOf_take_succ l i h
  · rw [lim_out (by omega), List.take_of_length_le (by omega), List.take_of_length_le (by omega)]; simp
def padN (l : List Nat) (N : Nat) : List Nat := l ++ List.replicate (N - l.length) 0
theorem padN_len {l : List Nat} {N : Nat} (h : l.length ≤ N) : (padN l N).length = N := by simp [padN]; omega
theorem padN_val (l : List Nat) (N : Nat) : valOf (padN l N) = valOf l := by rw [padN, valOf_append, valOf_zeros]; simp
theorem padN_lim (l : List Nat) (N i : Nat) : lim (padN l N) i = lim l i := by
  unfold lim padN
  rcases Nat.lt_or_ge i l.length with h | h
  · rw [List.getElem?_append_left h]
  · rw [List.getElem?_append_right h, List.getElem?_eq_none h]
    rw [List.getElem?_replicate]; split <;> rfl
theorem padN_lt {l : List Nat} (h : ∀ x ∈ l, x < LB) (N : Nat) : ∀ x ∈ padN l N, x < LB := by
  intro x hx
  rcases List.mem_append.1 hx with h1 | h1
  · exact h x h1
  · have := List.eq_of_mem_replicate h1; subst this; decide
theorem drop_of_lim {a b : List Nat} (hl : a.length = b.length) (k : Nat) (h : ∀ i, k ≤ i → lim a i = lim b i) : a.drop k = b.drop k := by
  apply List.ext_getElem (by simp [hl])
  intro i h1 h2
  have := h (k + i) (by omega)
  simp only [List.length_drop] at h1 h2
  unfold lim at this
  rw [List.getElem?_eq_getElem (by omega), List.getElem?_eq_getElem (by omega)] at this
  simpa using this
theorem val_lt_top {a b : List Nat} (ha : ∀ x ∈ a, x < LB) {j : Nat} (hlt : lim a j < lim b j) (heq : ∀ i, j < i → lim a i = lim b i) : valOf a < valOf b := by
  have key : ∀ N, a.length ≤ N → b.length ≤ N → j < N → valOf a < valOf b := by
    intro N h1 h2 h3
    rw [← padN_val a N, ← padN_val b N]
    refine valOf_lt_of (j := j) (by rw [padN_len h1, padN_len h2]) (by rw [padN_len h1]; exact h3) (padN_lt ha N) ?_ ?_
    · exact drop_of_lim (by rw [padN_len h1, padN_len h2]) _ fun i hi => by rw [padN_lim, padN_lim]; exact heq i (by omega)
    · have e1 := padN_lim a N j; have e2 := padN_lim b N j
      unfold lim at e1 e2 hlt
      rw [e1, e2]; exact hlt
  exact key (a.length + b.length + j + 1) (by omega) (by omega) (by omega)
theorem val_eq_all {a b : List Nat} (h : ∀ i, lim a i = lim b i) : valOf a = valOf b := by
  rw [← padN_val a (a.length + b.length), ← padN_val b (a.length + b.length)]
  have := drop_of_lim (a := padN a (a.length + b.length)) (b := padN b (a.length + b.length)) (by rw [padN_len (by omega), padN_len (by omega)]) 0 fun i _ => by rw [padN_lim, padN_lim]; exact h i
  simpa using congrArg valOf this
theorem cmpN_anti {a b : Nat} : cmpN a b = -1 ↔ a < b := by
  unfold cmpN
  by_cases h : a < b
  · simp [h]
  · simp only [h, if_false, iff_false]; split <;> decide
theorem valOf_take_drop (l : List Nat) (n : Nat) : valOf l = valOf (l.take n) + LB ^ n * valOf (l.drop n) := by
  by_cases h : n ≤ l.length
  · have e := congrArg valOf (List.take_append_drop n l).symm
    rw [valOf_append] at e
    rw [List.length_take, Nat.min_eq_left h] at e
    exact e
  · rw [List.take_of_length_le (by omega), List.drop_of_length_le (by omega)]; simp [valOf]
/-- a sum under way, at its end -/
theorem plus_end {a b o : List Nat} {c N : Nat} (ha : ∀ x ∈ a, x < LB) (hb : ∀ x ∈ b, x < LB) (h1 : a.length ≤ N) (h2 : b.length ≤ N)
    (h : valOf o + c * LB ^ (N+1) = valOf (a.take (N+1)) + valOf (b.take (N+1))) : valOf o = valOf a + valOf b := by
  rw [List.take_of_length_le (by omega), List.take_of_length_le (by omega)] at h
  have e1 : valOf a < LB ^ N := Nat.lt_of_lt_of_le (valOf_lt a ha) (Nat.pow_le_pow_right LB_pos h1)
  have e2 : valOf b < LB ^ N := Nat.lt_of_lt_of_le (valOf_lt b hb) (Nat.pow_le_pow_right LB_pos h2)
  have e3 : 2 * LB ^ N ≤ LB ^ (N+1) := by rw [Nat.pow_succ, Nat.mul_comm]; exact Nat.mul_le_mul_left _ (by decide)
  rcases Nat.eq_zero_or_pos c with rfl | hc
  · simpa using h
  · have : LB ^ (N+1) ≤ c * LB ^ (N+1) := Nat.le_mul_of_pos_left _ hc
    omega
/-- a difference under way, at its end -/
theorem minus_end {a b o : List Nat} {c N : Nat} (ha : ∀ x ∈ a, x < LB) (ho : ∀ x ∈ o, x < LB) (h1 : a.length = N) (h3 : o.length = N) (hab : valOf b ≤ valOf a)
    (h : valOf o + valOf (b.take N) = valOf (a.take N) + c * LB ^ N) : valOf o = valOf a - valOf b := by
  rw [List.take_of_length_le (l := a) (by omega)] at h
  have e1 : valOf a < LB ^ N := by rw [← h1]; exact valOf_lt a ha
  have e2 : valOf o < LB ^ N := by rw [← h3]; exact valOf_lt o ho
  have e3 := valOf_take_drop b N
  have e4 : valOf (b.drop N) = 0 := by
    rcases Nat.eq_zero_or_pos (valOf (b.drop N)) with h0 | h0
    · exact h0
    · have : LB ^ N ≤ LB ^ N * valOf (b.drop N) := Nat.le_mul_of_pos_right _ h0
      omega
  rw [e4, Nat.mul_zero, Nat.add_zero] at e3
  rcases Nat.eq_zero_or_pos c with rfl | hc
  · omega
  · have : LB ^ N ≤ c * LB ^ N := Nat.le_mul_of_pos_left _ hc
    omega
theorem minus_step' {V A B o i x y : Nat} (hv : V + B = A + o * LB ^ i) (ho : o ≤ 1) (hx : x < LB) (hy : y < LB) :
    (V + LB ^ i * ((LB + x - y - o) % LB)) + (B + LB ^ i * y) = (A + LB ^ i * x) + (1 - (LB + x - y - o) / LB) * LB ^ (i+1) ∧ 1 - (LB + x - y - o) / LB ≤ 1 := by
  refine ⟨?_, Nat.sub_le _ _⟩
  have e := Nat.mod_add_div (LB + x - y - o) LB
  have hq : (LB + x - y - o) / LB ≤ 1 := by
    have : LB + x - y - o < LB * 2 := by unfold LB at *; omega
    have := Nat.div_lt_of_lt_mul this
    omega
  generalize hr : (LB + x - y - o) % LB = r at *
  generalize hg : (LB + x - y - o) / LB = q at *
  have key : r + y + o = x + (1 - q) * LB := by
    have h1 : r + LB * q + y + o = LB + x := by unfold LB at *; omega
    rcases Nat.lt_or_ge q 1 with h | h
    · obtain rfl : q = 0 := by omega
      simp at h1 ⊢; omega
    · obtain rfl : q = 1 := by omega
      simp at h1 ⊢; omega
  generalize 1 - q = p at *
  have e1 : LB ^ i * (r + y + o) = LB ^ i * (x + p * LB) := by rw [key]
  rw [Nat.mul_add, Nat.mul_add, Nat.mul_add] at e1
  have e2 : p * LB ^ (i+1) = LB ^ i * (p * LB) := by rw [Nat.pow_succ, Nat.mul_comm, Nat.mul_assoc, Nat.mul_comm LB]
  rw [e2]
  rw [Nat.mul_comm o] at hv
  omega
/-- a row of a product, at its end -/
theorem TIn.done' {la lb O : List Nat} {n m i q : Nat} (h : TIn la lb n m i m O q) (hi : i < n) (hn : i < la.length) (hm : lb.length = m) : TOut la lb n m (i+1) (O.set (i+m) q) := by
  have hv := h.val
  have hset := valOf_set O (i+m) q (by rw [h.len]; omega)
  rw [h.zero (i+m) (Nat.le_refl _), Nat.mul_zero, Nat.add_zero] at hset
  refine ⟨by simpa using h.len, ?_, fun j hj => ?_⟩
  · rw [hset, valOf_take_succ la i hn, Nat.add_mul, Nat.mul_assoc]
    rw [List.take_of_length_le (l := lb) (by omega), Nat.mul_comm q] at hv
    exact hv
  · rw [List.getElem?_set_ne (by omega)]; exact h.zero j (by omega)
end Go.Proofs.YtgjbaamhpapeeaaGreatDoor
