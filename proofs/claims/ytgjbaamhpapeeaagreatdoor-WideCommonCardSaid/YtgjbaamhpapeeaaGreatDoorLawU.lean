/- What the public functions give at numbers that fit. -/
import Derived.Test.YtgjbaamhpapeeaaGreatDoorLawT
namespace Go.Proofs.YtgjbaamhpapeeaaGreatDoor
open Go.RowKit
set_option linter.unusedVariables false
set_option linter.unusedSimpArgs false

theorem bad1 {a : Nat} (h : (limbs a).length ≤ 512) : badE [limbs a] = 0 := badE_zero.2 (by intro l hl; simp at hl; subst hl; exact validL_limbs h)
theorem bad2 {a b : Nat} (h : (limbs a).length ≤ 512) (g : (limbs b).length ≤ 512) : badE [limbs a, limbs b] = 0 := badE_zero.2 (by intro l hl; simp at hl; rcases hl with rfl | rfl; exact validL_limbs h; exact validL_limbs g)
theorem fit_ok {x : Nat} (h : (limbs x).length ≤ 512) : fitS x = (limbs x, 0) := by simp only [fitS, if_pos h]
theorem plusS_fit {a b : Nat} (h : (limbs a).length ≤ 512) (g : (limbs b).length ≤ 512) (k : (limbs (a + b)).length ≤ 512) : plusS (limbs a) (limbs b) = (limbs (a + b), 0) := by
  simp only [plusS, bad2 h g, if_true, valOf_limbs, fit_ok k]
theorem timesS_fit {a b : Nat} (h : (limbs a).length ≤ 512) (g : (limbs b).length ≤ 512) (k : (limbs (a * b)).length ≤ 512) : timesS (limbs a) (limbs b) = (limbs (a * b), 0) := by
  simp only [timesS, bad2 h g, if_true, valOf_limbs, fit_ok k]
theorem subS_fit {a b : Nat} (h : (limbs a).length ≤ 512) (g : (limbs b).length ≤ 512) (k : b ≤ a) : subS (limbs a) (limbs b) = (limbs (a - b), 0) := by
  simp only [subS, bad2 h g, if_true, valOf_limbs, if_neg (Nat.not_lt.2 k), fit_ok (Nat.le_trans (limbs_mono (Nat.sub_le a b)) h)]
theorem cmpS_ok {a b : Nat} (h : (limbs a).length ≤ 512) (g : (limbs b).length ≤ 512) : cmpS (limbs a) (limbs b) = (cmpN a b, 0) := by
  simp only [cmpS, bad2 h g, if_true, valOf_limbs]
theorem divS_ok {a b : Nat} (h : (limbs a).length ≤ 512) (g : (limbs b).length ≤ 512) (k : b ≠ 0) : divS (limbs a) (limbs b) = (limbs (a / b), limbs (a % b), 0) := by
  simp only [divS, bad2 h g, if_true, valOf_limbs, if_neg k]
theorem divS_none {a b : Nat} (h : (limbs a).length ≤ 512) (g : (limbs b).length ≤ 512) (k : b = 0) : divS (limbs a) (limbs b) = ([], [], 4) := by
  simp only [divS, bad2 h g, if_true, valOf_limbs, if_pos k]
theorem gcdS_ok {a b : Nat} (h : (limbs a).length ≤ 512) (g : (limbs b).length ≤ 512) : gcdS (limbs a) (limbs b) = (limbs (Nat.gcd a b), 0) := by
  have k : (limbs (Nat.gcd a b)).length ≤ 512 := by
    rcases Nat.eq_zero_or_pos a with h0 | h0
    · rw [h0, Nat.gcd_zero_left]; exact g
    · exact Nat.le_trans (limbs_mono (Nat.gcd_le_left _ h0)) h
  simp only [gcdS, bad2 h g, if_true, valOf_limbs, fit_ok k]
theorem powS_fit {a k : Nat} (h : (limbs a).length ≤ 512) (hk : k ≤ 20000) (g : (limbs (a ^ k)).length ≤ 512) : powS (limbs a) (k : Int) = (limbs (a ^ k), 0) := by
  have hno : ¬ ((k : Int) < 0 ∨ 20000 < (k : Int)) := by omega
  simp only [powS, bad1 h, if_true, valOf_limbs, if_neg hno, Int.toNat_natCast, fit_ok g]
theorem shiftS_up {a k : Nat} (h : (limbs a).length ≤ 512) (hk : k ≤ 20000) (g : (limbs (a * 2 ^ k)).length ≤ 512) : shiftS (limbs a) (k : Int) = (limbs (a * 2 ^ k), 0) := by
  have hno : ¬ ((k : Int) < -20000 ∨ 20000 < (k : Int)) := by omega
  have h0 : ¬ ((k : Int) < 0) := by omega
  simp only [shiftS, bad1 h, if_true, valOf_limbs, if_neg hno, if_neg h0, Int.toNat_natCast, fit_ok g]
theorem shiftS_back {a k : Nat} (hk : k ≤ 20000) (h : (limbs (a * 2 ^ k)).length ≤ 512) : shiftS (limbs (a * 2 ^ k)) (-(k : Int)) = (limbs a, 0) := by
  have hno : ¬ (-(k : Int) < -20000 ∨ 20000 < -(k : Int)) := by omega
  have hal : (limbs a).length ≤ 512 := Nat.le_trans (limbs_mono (Nat.le_mul_of_pos_right a (Nat.two_pow_pos k))) h
  rcases Nat.eq_zero_or_pos k with h0 | h0
  · subst h0
    have h1 : ¬ (-((0 : Nat) : Int) < 0) := by omega
    simp only [shiftS, bad1 h, if_true, valOf_limbs, if_neg hno, if_neg h1]
    simp [fit_ok hal]
  · have h1 : -(k : Int) < 0 := by omega
    simp only [shiftS, bad1 h, if_true, valOf_limbs, if_neg hno, if_pos h1, Int.neg_neg, Int.toNat_natCast, Nat.mul_div_cancel _ (Nat.two_pow_pos k), fit_ok hal]
theorem RootS.ok {a k : Nat} {l : List Nat} {er : Int} (ha : (limbs a).length ≤ 512) (h1 : 1 ≤ k) (h2 : k ≤ 64) (h : RootS (limbs a) (k : Int) l er) : ∃ x, IsRoot k a x ∧ l = limbs x ∧ er = 0 := by
  rcases h with ⟨_, _, _, x, hx, rfl, rfl⟩ | ⟨_, h, _⟩ | ⟨h, _⟩
  · rw [Int.toNat_natCast, valOf_limbs] at hx
    have := fit_ok (Nat.le_trans (limbs_mono (root_le (k := k) (by omega) hx.le)) ha)
    rw [this]
    exact ⟨x, hx, rfl, rfl⟩
  · omega
  · exact absurd (bad1 ha) h
theorem next_len {a k r M : Nat} (hM : (limbs a).length ≤ M) (hr : r ^ k ≤ a) (hk : k ≤ 64) (hk0 : 0 < k) : (limbs ((r + 1) ^ k)).length ≤ M + 4 := by
  have h1 : (r + 1) ^ k ≤ 2 ^ 64 * (a + 1) := by
    rcases Nat.eq_zero_or_pos r with h0 | h0
    · subst h0
      rw [Nat.zero_add, Nat.one_pow]
      have := Nat.mul_le_mul (show 1 ≤ 2 ^ 64 by decide) (show 1 ≤ a + 1 by omega)
      omega
    · have h2 : (r + 1) ^ k ≤ (2 * r) ^ k := Nat.pow_le_pow_left (by omega) k
      rw [Nat.mul_pow] at h2
      have h3 : 2 ^ k ≤ 2 ^ 64 := Nat.pow_le_pow_right (by decide) hk
      exact Nat.le_trans h2 (Nat.mul_le_mul h3 (by omega))
  refine Nat.le_trans (limbs_mono h1) ?_
  have h2 := limbs_len_mul (2 ^ 64) (a + 1)
  have h3 : (limbs (2 ^ 64)).length ≤ 3 := pow2_len (M := 3) (by omega)
  have h4 : (limbs (a + 1)).length ≤ M + 1 := by
    refine limbs_len_le ?_
    have h5 := limbs_len_le_pow hM
    rw [Nat.pow_succ]
    have h6 : 0 < LB ^ M := Nat.pow_pos LB_pos
    generalize LB ^ M = Z at *
    unfold LB; omega
  omega
end Go.Proofs.YtgjbaamhpapeeaaGreatDoor
