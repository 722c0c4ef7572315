/- Package wide, sixth part: Shift. -/
import Derived.Test.YtgjbaamhpapeeaaGreatDoorWideE
namespace Go.Proofs.YtgjbaamhpapeeaaGreatDoor
set_option linter.unusedSimpArgs false
open Go.RowKit
set_option linter.unusedVariables false

def shiftS (la : List Nat) (n : Int) : List Nat × Int :=
  if badE [la] = 0 then (if n < -20000 ∨ 20000 < n then ([], 2) else if n < 0 then fitS (valOf la / 2 ^ (-n).toNat) else fitS (valOf la * 2 ^ n.toNat)) else ([], badE [la])

end Go.Proofs.YtgjbaamhpapeeaaGreatDoor
