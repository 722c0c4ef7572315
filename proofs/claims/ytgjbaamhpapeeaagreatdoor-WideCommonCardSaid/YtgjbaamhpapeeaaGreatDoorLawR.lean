/- The reference: power, Pow, Root. -/
import Derived.Test.YtgjbaamhpapeeaaGreatDoorLawK
import Derived.Test.YtgjbaamhpapeeaaGreatDoorNatW
namespace Go.Proofs.YtgjbaamhpapeeaaGreatDoor
open Go.RowKit
set_option linter.unusedVariables false
set_option linter.unusedSimpArgs false

theorem pow_long_of {a i K k : Nat} (hi : i < K) (hK : a ^ K = a ^ k) (h : 512 < (limbs (a ^ (i+1))).length) : ¬ (limbs (a ^ k)).length ≤ 512 := by
  rcases Nat.eq_zero_or_pos a with h0 | h0
  · subst h0
    rw [Nat.zero_pow (Nat.succ_pos i), limbs_zero] at h
    simp at h
  · have := pow_len_mono h0 (show i + 1 ≤ K by omega)
    rw [hK] at this
    omega

end Go.Proofs.YtgjbaamhpapeeaaGreatDoor
