/- Fractions: the reference's QPow. -/
import Derived.Test.YtgjbaamhpapeeaaGreatDoorQuoA
import Derived.Test.YtgjbaamhpapeeaaGreatDoorLawS
namespace Go.Proofs.YtgjbaamhpapeeaaGreatDoor
open Go.RowKit
set_option linter.unusedVariables false
set_option linter.unusedSimpArgs false

theorem low_pow {neg : Bool} {x y : Nat} (hg : Nat.gcd x y = 1) (hx : neg = true → x ≠ 0) (h1 : (limbs x).length ≤ 512) (h2 : (limbs y).length ≤ 512) (e : Ending) (w : World) : LowRes neg x y e w = QRes neg (limbs x) (limbs y) 0 e w := by
  have hs : (neg && decide (x ≠ 0)) = neg := by
    rcases neg with _ | _
    · rfl
    · simp [hx rfl]
  unfold LowRes
  simp only [lowS, hg, Nat.div_one, if_pos (And.intro h1 h2), hs]
theorem gcd_pow_one {a b : Nat} (h : Nat.gcd a b = 1) (j : Nat) : Nat.gcd (a ^ j) (b ^ j) = 1 := Nat.Coprime.pow j j h

end Go.Proofs.YtgjbaamhpapeeaaGreatDoor
