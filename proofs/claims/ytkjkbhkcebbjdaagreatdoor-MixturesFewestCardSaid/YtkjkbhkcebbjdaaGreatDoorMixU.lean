/- Package ratios: the sign of a product, where the quick bounds show it; the test of Floor. -/
import Derived.Test.YtkjkbhkcebbjdaaGreatDoorMixT
import Derived.Test.YtkjkbhkcebbjdaaGreatDoorMixG
namespace Go.Proofs.YtkjkbhkcebbjdaaGreatDoor
set_option linter.unusedSimpArgs false
open Go.RowKit
set_option linter.unusedVariables false

/-- the quick bounds show the sign s, wherever these terms lie -/
def Knows (l : List (Nat × Int)) (s : Int) : Prop := ∀ (A : Option Addr) (n c : Nat) (W : World), TR W A n l → Calls Tryz.prog 90 #[.slice A n c] W fun e w' => e = .returned (.tuple #[.int .i64 s, .bool true]) ∧ Below W.heap.size W w'
set_option maxHeartbeats 800000 in
theorem sign_known (l : List (Nat × Int)) (s : Int) (hk : Knows l s) : SignTo l s := by
  intro A n c w hl
  have HG : Sl _ := ⟨hk A n c w hl⟩
  clear hk hl
  go_enter Tryz.func79, Tryz.ntmps79
  go_wp2_with fail
  refine HG.out.mono ?_; rintro e w1 ⟨rfl, hb⟩
  go_wp2_with fail
  go_ret
  exact ⟨rfl, hb⟩

end Go.Proofs.YtkjkbhkcebbjdaaGreatDoor
