/- Package words: Digits of small numbers. -/
import Derived.Test.YtbaojmfkjpnfhaaGreatDoorCsI
import Derived.Test.YtbaojmfkjpnfhaaGreatDoorShelB
namespace Go.Proofs.YtbaojmfkjpnfhaaGreatDoor
set_option linter.unusedSimpArgs false
open Go.RowKit
set_option linter.unusedVariables false

theorem wdigits_small (i : Nat) (hi : i < 100) (w : World) : Calls Tryz.prog 162 #[.int .i64 (i : Int)] w fun e w' => e = .returned (.string ⟨(Lib.decDigits i).toArray⟩) ∧ w' = w := by
  have HF : Sl _ := ⟨Tryz.strconv_FormatInt_10_small i hi w⟩
  clear hi
  go_enter Tryz.func162, Tryz.ntmps162
  go_wp2_with fail
  refine HF.out.mono ?_; rintro e w1 ⟨rfl, rfl⟩
  go_wp2_with fail
  go_ret
  exact ⟨rfl, rfl⟩
end Go.Proofs.YtbaojmfkjpnfhaaGreatDoor
