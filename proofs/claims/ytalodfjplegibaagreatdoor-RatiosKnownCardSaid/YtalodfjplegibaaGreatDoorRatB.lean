/- Plain law: bounds of logarithms, and the sign of a product that they show. No program in sight. -/
import Derived.Test.YtalodfjplegibaaGreatDoorMixA
import Derived.Test.YtalodfjplegibaaGreatDoorMixB
namespace Go.Proofs.YtalodfjplegibaaGreatDoor
set_option linter.unusedSimpArgs false
set_option linter.unusedVariables false

/-- a quotient, rounded up -/
def cdiv (u v : Nat) : Nat := u / v + (if u % v = 0 then 0 else 1)
theorem cdiv_ge {u v : Nat} (hv : 0 < v) : u ≤ cdiv u v * v := by
  have h := Nat.div_add_mod u v
  have h2 := Nat.mod_lt u hv
  unfold cdiv
  split
  · rw [Nat.add_zero, Nat.mul_comm]; omega
  · rw [Nat.add_mul, Nat.one_mul, Nat.mul_comm (u / v)]; omega
theorem cdiv_le {u v c : Nat} (hv : 0 < v) (h : u ≤ c * v) : cdiv u v ≤ c := by
  have h1 := Nat.div_add_mod u v
  unfold cdiv
  rcases Nat.lt_or_ge c (u / v + (if u % v = 0 then 0 else 1)) with h0 | h0
  · exfalso
    split at h0
    · have : u / v ≤ c := by
        have := Nat.div_le_div_right (c := v) h
        rwa [Nat.mul_div_cancel _ hv] at this
      omega
    · have h3 : c * v ≤ v * (u / v) := by
        rw [Nat.mul_comm v]
        exact Nat.mul_le_mul_right v (by omega)
      omega
  · exact h0
/-- the binary places of a logarithm, one by one: D: one; a, b: bounds of what is left -/
def lgL (D : Nat) : Nat → Nat → Nat → Nat → Nat × Nat
  | 0, _, _, s => (s, s + 1)
  | r+1, a, b, s =>
    if 2 * D ≤ a * a / D then lgL D r (a * a / D / 2) (cdiv (cdiv (b * b) D) 2) (2 * s + 1)
    else if 2 * D ≤ cdiv (b * b) D then (s * 2 ^ (r + 1), (s + 1) * 2 ^ (r + 1))
    else lgL D r (a * a / D) (cdiv (b * b) D) (2 * s)
/-- bounds of the logarithm of n to the base 2, times 2^P -/
def lg (n P : Nat) : Nat × Nat :=
  if n = 2 ^ (Go.Lib.bitLen n - 1) then ((Go.Lib.bitLen n - 1) * 2 ^ P, (Go.Lib.bitLen n - 1) * 2 ^ P)
  else lgL (2 ^ (2 * P + 64)) P (n * 2 ^ (2 * P + 64 - (Go.Lib.bitLen n - 1))) (n * 2 ^ (2 * P + 64 - (Go.Lib.bitLen n - 1))) (Go.Lib.bitLen n - 1)
/-- these are bounds -/
def Bd (n P : Nat) (x : Nat × Nat) : Prop := 2 ^ x.1 ≤ n ^ 2 ^ P ∧ n ^ 2 ^ P ≤ 2 ^ x.2
theorem pow_two_mul (n t : Nat) : n ^ 2 ^ (t + 1) = n ^ 2 ^ t * n ^ 2 ^ t := by rw [Nat.pow_succ, Nat.pow_mul, Nat.pow_two]
theorem lgL_bd {n D : Nat} (hD : 0 < D) : ∀ (r t a b s : Nat), a * 2 ^ s ≤ n ^ 2 ^ t * D → n ^ 2 ^ t * D ≤ b * 2 ^ s → D ≤ a → b < 2 * D → Bd n (t + r) (lgL D r a b s)
  | 0, t, a, b, s, h1, h2, h3, h4 => by
    unfold lgL Bd
    refine ⟨?_, ?_⟩
    · have : 2 ^ s * D ≤ n ^ 2 ^ t * D := Nat.le_trans (by rw [Nat.mul_comm]; exact Nat.mul_le_mul_right _ h3) h1
      exact Nat.le_of_mul_le_mul_right this hD
    · have : n ^ 2 ^ t * D ≤ 2 ^ (s + 1) * D := Nat.le_trans h2 (by
        rw [Nat.pow_succ, Nat.mul_assoc, Nat.mul_comm b]
        exact Nat.mul_le_mul_left _ (by omega))
      exact Nat.le_of_mul_le_mul_right this hD
  | r+1, t, a, b, s, h1, h2, h3, h4 => by
    have q1 : a * a / D * D ≤ a * a := Nat.div_mul_le_self _ _
    have q2 : b * b ≤ cdiv (b * b) D * D := cdiv_ge hD
    have p2 : (2 : Nat) ^ (2 * s) = 2 ^ s * 2 ^ s := by rw [Nat.two_mul, Nat.pow_add]
    have g1 : a * a / D * 2 ^ (2 * s) ≤ n ^ 2 ^ (t + 1) * D := by
      refine Nat.le_of_mul_le_mul_right (c := D) ?_ hD
      have e1 := Nat.mul_le_mul h1 h1
      rw [pow_two_mul, p2]
      calc a * a / D * (2 ^ s * 2 ^ s) * D = (a * a / D * D) * (2 ^ s * 2 ^ s) := by ac_rfl
        _ ≤ (a * a) * (2 ^ s * 2 ^ s) := Nat.mul_le_mul_right _ q1
        _ = (a * 2 ^ s) * (a * 2 ^ s) := by ac_rfl
        _ ≤ (n ^ 2 ^ t * D) * (n ^ 2 ^ t * D) := e1
        _ = n ^ 2 ^ t * n ^ 2 ^ t * D * D := by ac_rfl
    have g2 : n ^ 2 ^ (t + 1) * D ≤ cdiv (b * b) D * 2 ^ (2 * s) := by
      refine Nat.le_of_mul_le_mul_right (c := D) ?_ hD
      have e1 := Nat.mul_le_mul h2 h2
      rw [pow_two_mul, p2]
      calc n ^ 2 ^ t * n ^ 2 ^ t * D * D = (n ^ 2 ^ t * D) * (n ^ 2 ^ t * D) := by ac_rfl
        _ ≤ (b * 2 ^ s) * (b * 2 ^ s) := e1
        _ = (b * b) * (2 ^ s * 2 ^ s) := by ac_rfl
        _ ≤ (cdiv (b * b) D * D) * (2 ^ s * 2 ^ s) := Nat.mul_le_mul_right _ q2
        _ = cdiv (b * b) D * (2 ^ s * 2 ^ s) * D := by ac_rfl
    have et : t + (r + 1) = t + 1 + r := by omega
    unfold lgL
    split
    · rename_i hx
      rw [et]
      refine lgL_bd hD r (t + 1) _ _ _ ?_ ?_ ?_ ?_
      · rw [Nat.pow_succ]
        calc a * a / D / 2 * (2 ^ (2 * s) * 2) = (a * a / D / 2 * 2) * 2 ^ (2 * s) := by ac_rfl
          _ ≤ a * a / D * 2 ^ (2 * s) := Nat.mul_le_mul_right _ (Nat.div_mul_le_self _ _)
          _ ≤ _ := g1
      · rw [Nat.pow_succ]
        calc _ ≤ cdiv (b * b) D * 2 ^ (2 * s) := g2
          _ ≤ cdiv (cdiv (b * b) D) 2 * 2 * 2 ^ (2 * s) := Nat.mul_le_mul_right _ (cdiv_ge (by decide))
          _ = cdiv (cdiv (b * b) D) 2 * (2 ^ (2 * s) * 2) := by rw [Nat.mul_assoc, Nat.mul_comm 2]
      · generalize a * a / D = y at *; omega
      · have hb : b * b + 4 * D ≤ 4 * D * D + 1 := by
          obtain ⟨c, hc⟩ : ∃ c, 2 * D = b + 1 + c := ⟨2 * D - b - 1, by omega⟩
          have e1 : (2 * D) * (2 * D) = (b + 1 + c) * (b + 1 + c) := by rw [hc]
          have e2 : (b + 1 + c) * (b + 1 + c) = b * b + 2 * b + 1 + 2 * b * c + 2 * c + c * c := by
            simp only [Nat.add_mul, Nat.mul_add, Nat.one_mul, Nat.mul_one, Nat.two_mul]
            have := Nat.mul_comm b c
            omega
          have e3 : (2 * D) * (2 * D) = 4 * D * D := by
            rw [Nat.mul_assoc 2 D, Nat.mul_left_comm D 2 D, ← Nat.mul_assoc, Nat.mul_assoc 4]
          omega
        have hc1 : cdiv (b * b) D ≤ 4 * D - 3 := by
          refine cdiv_le hD ?_
          have : (4 * D - 3) * D + 3 * D = 4 * D * D := by
            rw [← Nat.add_mul]; congr 1; omega
          omega
        have hc2 : cdiv (cdiv (b * b) D) 2 ≤ 2 * D - 1 := cdiv_le (by decide) (by omega)
        omega
    · split
      · unfold Bd
        have l1 : 2 ^ s ≤ n ^ 2 ^ t := by
          have : 2 ^ s * D ≤ n ^ 2 ^ t * D := Nat.le_trans (by rw [Nat.mul_comm]; exact Nat.mul_le_mul_right _ h3) h1
          exact Nat.le_of_mul_le_mul_right this hD
        have l2 : n ^ 2 ^ t ≤ 2 ^ (s + 1) := by
          have : n ^ 2 ^ t * D ≤ 2 ^ (s + 1) * D := Nat.le_trans h2 (by
            rw [Nat.pow_succ, Nat.mul_assoc, Nat.mul_comm b]
            exact Nat.mul_le_mul_left _ (by omega))
          exact Nat.le_of_mul_le_mul_right this hD
        rw [Nat.pow_add 2 t, Nat.pow_mul n, Nat.pow_mul 2 s, Nat.pow_mul 2 (s + 1)]
        exact ⟨Nat.pow_le_pow_left l1 _, Nat.pow_le_pow_left l2 _⟩
      · rename_i hx hy
        rw [et]
        refine lgL_bd hD r (t + 1) _ _ _ g1 g2 ?_ (Nat.lt_of_not_le hy)
        rw [Nat.le_div_iff_mul_le hD]
        exact Nat.mul_le_mul h3 h3
theorem bitLenAux_bounds : ∀ (f n : Nat), 0 < n → n < 2 ^ f → 0 < Go.Lib.bitLenAux f n ∧ 2 ^ (Go.Lib.bitLenAux f n - 1) ≤ n ∧ n < 2 ^ Go.Lib.bitLenAux f n
  | 0, n, h, h2 => by simp at h2; omega
  | f+1, n, h, h2 => by
    rw [Go.Lib.bitLenAux, if_neg (by omega)]
    rcases Nat.lt_or_ge n 2 with h1 | h1
    · have : n = 1 := by omega
      subst this
      have e : Go.Lib.bitLenAux f (1 / 2) = 0 := by cases f <;> rfl
      rw [e]; decide
    · obtain ⟨a, b, c⟩ := bitLenAux_bounds f (n / 2) (by omega) (by rw [Nat.pow_succ] at h2; omega)
      generalize Go.Lib.bitLenAux f (n / 2) = k at *
      refine ⟨by omega, ?_, ?_⟩
      · obtain ⟨j, rfl⟩ : ∃ j, k = j + 1 := ⟨k - 1, by omega⟩
        rw [show 1 + (j + 1) - 1 = j + 1 by omega, Nat.pow_succ]
        rw [show j + 1 - 1 = j by omega] at b
        omega
      · rw [Nat.add_comm, Nat.pow_succ]; omega
theorem bitLen_bounds {n : Nat} (h : 0 < n) (h2 : n < 2 ^ 64) : 2 ^ (Go.Lib.bitLen n - 1) ≤ n ∧ n < 2 ^ (Go.Lib.bitLen n - 1 + 1) := by
  obtain ⟨a, b, c⟩ := bitLenAux_bounds 64 n h h2
  unfold Go.Lib.bitLen
  exact ⟨b, by rw [Nat.sub_add_cancel a]; exact c⟩
theorem lg_bd {n P : Nat} (h : 0 < n) (h2 : n < 2 ^ 64) (hk : Go.Lib.bitLen n - 1 ≤ 2 * P + 64) : Bd n P (lg n P) := by
  obtain ⟨b1, b2⟩ := bitLen_bounds h h2
  unfold lg
  generalize Go.Lib.bitLen n - 1 = k at *
  split
  · rename_i he
    unfold Bd
    simp only []
    rw [Nat.pow_mul, ← he]
    exact ⟨Nat.le_refl _, Nat.le_refl _⟩
  · have e1 : n * 2 ^ (2 * P + 64 - k) * 2 ^ k = n ^ 2 ^ 0 * 2 ^ (2 * P + 64) := by
      rw [Nat.mul_assoc, ← Nat.pow_add, Nat.sub_add_cancel hk, Nat.pow_zero, Nat.pow_one]
    have := lgL_bd (n := n) (D := 2 ^ (2 * P + 64)) (Nat.pow_pos (by decide)) P 0 (n * 2 ^ (2 * P + 64 - k)) (n * 2 ^ (2 * P + 64 - k)) k (Nat.le_of_eq e1) (Nat.le_of_eq e1.symm)
      (by
        have : 2 ^ k * 2 ^ (2 * P + 64 - k) = 2 ^ (2 * P + 64) := by rw [← Nat.pow_add]; congr 1; omega
        rw [← this]
        exact Nat.mul_le_mul_right _ b1)
      (by
        have : 2 * 2 ^ (2 * P + 64) = 2 ^ (k + 1) * 2 ^ (2 * P + 64 - k) := by rw [← Nat.pow_add, ← Nat.pow_succ']; congr 1; omega
        rw [this]
        exact Nat.mul_lt_mul_of_pos_right b2 (Nat.pow_pos (by decide)))
    rwa [Nat.zero_add] at this
end Go.Proofs.YtalodfjplegibaaGreatDoor
