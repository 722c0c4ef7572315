/- Package spec: footage; (*checker).division where all is well. -/
import Derived.Test.YtbaojmfkjpnfhaaGreatDoorCsC
import Derived.Test.YtbaojmfkjpnfhaaGreatDoorMyN
namespace Go.Proofs.YtbaojmfkjpnfhaaGreatDoor
set_option linter.unusedSimpArgs false
open Go.RowKit
set_option linter.unusedVariables false

set_option maxHeartbeats 1600000 in
theorem footage_any (num den : Int) (w : World) : Calls Tryz.prog 160 #[.agg #[.int .i64 num, .int .i64 den]] w fun e w' => e = .returned (.bool (decide (vF num den))) ∧ Below w.heap.size w w' := by
  have hu : Below w.heap.size w (w.alloc (.cells #[.int .i64 num, .int .i64 den] 95)) := (Below.refl _ _).alloc (Nat.le_refl _) _
  have HU : Sl _ := ⟨hu⟩
  have HF : Sl _ := ⟨fun W : World => feet_any num den W⟩
  clear hu
  by_cases hv : vF num den
  · have HV : Sl _ := ⟨decide_eq_true hv⟩
    simp only [if_pos hv] at HF
    rw [HV.out]
    clear hv
    go_enter Tryz.func160, Tryz.ntmps160
    go_wp2_with fail
    refine (HF.out _).mono ?_; rintro e w1 ⟨⟨s, rfl⟩, hb⟩
    have HB : Sl _ := ⟨HU.out.trans (hb.mono HU.out.size)⟩
    clear hb
    go_wp2_with fail
    go_ret
    exact ⟨rfl, HB.out⟩
  · have HV : Sl _ := ⟨decide_eq_false hv⟩
    simp only [if_neg hv] at HF
    rw [HV.out]
    clear hv
    go_enter Tryz.func160, Tryz.ntmps160
    go_wp2_with fail
    refine (HF.out _).mono ?_; rintro e w1 ⟨⟨s, rfl⟩, hb⟩
    have HB : Sl _ := ⟨HU.out.trans (hb.mono HU.out.size)⟩
    clear hb
    go_wp2_with fail
    go_ret
    exact ⟨rfl, HB.out⟩
end Go.Proofs.YtbaojmfkjpnfhaaGreatDoor
