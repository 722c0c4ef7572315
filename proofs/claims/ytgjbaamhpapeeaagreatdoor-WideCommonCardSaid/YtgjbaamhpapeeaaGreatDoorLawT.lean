/- The law WidePowers returns true, where awake does. -/
import Derived.Test.YtgjbaamhpapeeaaGreatDoorLawQ
import Derived.Test.YtgjbaamhpapeeaaGreatDoorLawS
namespace Go.Proofs.YtgjbaamhpapeeaaGreatDoor
open Go.RowKit
set_option linter.unusedVariables false
set_option linter.unusedSimpArgs false

theorem powS_len (la : List Nat) (k : Int) : (powS la k).1.length ≤ 512 := by
  unfold powS
  split
  · split
    · simp
    · exact fitS_len _
  · simp

end Go.Proofs.YtgjbaamhpapeeaaGreatDoor
