/- The law's far; the law WideAdds returns true, where awake does. -/
import Derived.Test.YtgjbaamhpapeeaaGreatDoorLawI
namespace Go.Proofs.YtgjbaamhpapeeaaGreatDoor
open Go.RowKit
set_option linter.unusedVariables false
set_option linter.unusedSimpArgs false

def farS (n k : Nat) : Bool := decide (k < n) && decide (n < 511) || decide (520 < n)
theorem farS_false {n k : Nat} (h : farS n k = false) : n ≤ 520 := by
  simp [farS] at h; omega
end Go.Proofs.YtgjbaamhpapeeaaGreatDoor
