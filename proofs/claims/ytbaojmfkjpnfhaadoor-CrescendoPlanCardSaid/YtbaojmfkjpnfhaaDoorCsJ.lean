/- Package words: Digits of small numbers. -/
import Derived.Test.YtbaojmfkjpnfhaaDoorCsI
import Derived.Test.YtbaojmfkjpnfhaaDoorShelB
namespace Go.Proofs.YtbaojmfkjpnfhaaDoor
set_option linter.unusedSimpArgs false
open Go.RowKit
set_option linter.unusedVariables false

theorem wdigits_small (i : Nat) (hi : i < 100) (w : World) : Calls Tryd.prog 69 #[.int .i64 (i : Int)] w fun e w' => e = .returned (.string ⟨(Lib.decDigits i).toArray⟩) ∧ w' = w := by
  have HF : Sl _ := ⟨Tryd.strconv_FormatInt_10_small i hi w⟩
  clear hi
  go_enter Tryd.func69, Tryd.ntmps69
  go_wp2_with fail
  refine HF.out.mono ?_; rintro e w1 ⟨rfl, rfl⟩
  go_wp2_with fail
  go_ret
  exact ⟨rfl, rfl⟩
end Go.Proofs.YtbaojmfkjpnfhaaDoor
