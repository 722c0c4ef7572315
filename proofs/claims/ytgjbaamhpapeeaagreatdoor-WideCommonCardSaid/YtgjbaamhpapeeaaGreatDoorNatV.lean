/- Plain facts for the reference: roots bit by bit, powers, the greatest common divisor. No program in sight. -/
import Derived.Test.YtgjbaamhpapeeaaGreatDoorNatS
namespace Go.Proofs.YtgjbaamhpapeeaaGreatDoor
set_option linter.unusedSimpArgs false
set_option linter.unusedVariables false
theorem rootb_up {A R k i : Nat} (h1 : A < (R + 2 ^ (i+1)) ^ k) : A < ((R + 2 ^ i) + 2 ^ i) ^ k := by
  rw [Nat.pow_succ] at h1
  have : R + 2 ^ i * 2 = R + 2 ^ i + 2 ^ i := by omega
  rwa [this] at h1
theorem pow_small {a k : Nat} (h : a ≤ 1) : a ^ k = a ^ (min k 1) := by
  rcases Nat.eq_zero_or_pos k with rfl | hk
  · rfl
  · have e : min k 1 = 1 := by omega
    rw [e]
    have : a = 0 ∨ a = 1 := by omega
    rcases this with rfl | rfl
    · rw [Nat.zero_pow hk]
    · rw [Nat.one_pow]
theorem limbs_mono {a b : Nat} (h : a ≤ b) : (limbs a).length ≤ (limbs b).length := limbs_len_le (Nat.lt_of_le_of_lt h (lt_limbs_len b))
theorem pow_len_mono {a i k : Nat} (ha : 0 < a) (h : i ≤ k) : (limbs (a ^ i)).length ≤ (limbs (a ^ k)).length := limbs_mono (Nat.pow_le_pow_right ha h)
theorem fit_long' {n M : Nat} (h : 32 * M < bitsN n) : M < (limbs n).length := by
  rcases Nat.lt_or_ge M (limbs n).length with h1 | h1
  · exact h1
  · have h2 := limbs_len_iff.1 h1
    rw [LB_pow] at h2
    have := bitsN_le_iff.2 h2
    omega
theorem fit_short' {n M : Nat} (h : bitsN n ≤ 32 * M) : (limbs n).length ≤ M := by
  have h2 := bitsN_le_iff.1 h
  refine limbs_len_iff.2 ?_
  rw [LB_pow]; exact h2
theorem fit_long {n : Nat} (h : 16384 < bitsN n) : 512 < (limbs n).length := fit_long' (M := 512) (by omega)
theorem fit_short {n : Nat} (h : bitsN n ≤ 16384) : (limbs n).length ≤ 512 := fit_short' (M := 512) (by omega)
theorem bitsN_mul_pow {a k : Nat} (h : a ≠ 0) : bitsN (a * 2 ^ k) = bitsN a + k := by
  have h1 := bitsN_le h
  have h2 := bitsN_lt a
  obtain ⟨j, hj⟩ : ∃ j, bitsN a = j + 1 := ⟨bitsN a - 1, by
      have : bitsN a ≠ 0 := by simp [bitsN, h]
      omega⟩
  rw [hj] at h1 h2 ⊢
  simp only [Nat.add_sub_cancel] at h1
  rw [show j + 1 + k = (j + k) + 1 by omega]
  refine bitsN_unique ?_ ?_
  · rw [Nat.pow_add]; exact Nat.mul_le_mul_right _ h1
  · rw [show j + k + 1 = (j + 1) + k by omega, Nat.pow_add]; exact Nat.mul_lt_mul_of_pos_right h2 (Nat.two_pow_pos k)
theorem bitsN_div_le (a k : Nat) : bitsN (a / 2 ^ k) ≤ bitsN a := bitsN_le_iff.2 (Nat.lt_of_le_of_lt (Nat.div_le_self _ _) (bitsN_lt a))
end Go.Proofs.YtgjbaamhpapeeaaGreatDoor
