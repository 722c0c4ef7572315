/- The law WideOrders returns true, where awake does. -/
import Derived.Test.YtgjbaamhpapeeaaGreatDoorLawJ
import Derived.Test.YtgjbaamhpapeeaaGreatDoorLawK
namespace Go.Proofs.YtgjbaamhpapeeaaGreatDoor
open Go.RowKit
set_option linter.unusedVariables false
set_option linter.unusedSimpArgs false

theorem shiftS_len (la : List Nat) (k : Int) : (shiftS la k).1.length ≤ 512 := by
  unfold shiftS
  split
  · split
    · simp
    · split <;> exact fitS_len _
  · simp

end Go.Proofs.YtgjbaamhpapeeaaGreatDoor
