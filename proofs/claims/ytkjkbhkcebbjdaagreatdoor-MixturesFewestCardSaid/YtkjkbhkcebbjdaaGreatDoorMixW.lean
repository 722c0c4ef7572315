/- Package words: the footage 8/3 is valid. -/
import Derived.Test.YtkjkbhkcebbjdaaGreatDoorMixQ
import Derived.Test.YtkjkbhkcebbjdaaGreatDoorWgc
import Derived.Test.YtkjkbhkcebbjdaaGreatDoorShelB
import Derived.Deep.RegionWith
namespace Go.Proofs.YtkjkbhkcebbjdaaGreatDoor
set_option linter.unusedSimpArgs false
open Go.RowKit
set_option linter.unusedVariables false

set_option maxHeartbeats 1600000 in
set_option maxRecDepth 100000 in
theorem feet83_valid (w : World) : Calls Tryz.prog 60 #[.agg #[.int .i64 8, .int .i64 3]] w fun e w' => e = .returned (.bool true) ∧ Below w.heap.size w w' := by
  have hu : Below w.heap.size w (w.alloc (.cells #[.int .i64 8, .int .i64 3] 70)) := (Below.refl _ _).alloc (Nat.le_refl _) _
  have hg := fun W : World => wgcd_any 8 3 W (by decide) (by decide)
  have e83 : Nat.gcd 8 3 = 1 := by decide
  rw [e83] at hg
  have HG : Sl (∀ W : World, Calls Tryz.prog 74 #[.int .i64 8, .int .i64 3] W fun e w' => e = .returned (.int .i64 1) ∧ ∃ m, w' = W.drewN m) := ⟨hg⟩
  clear hg e83
  go_enter Tryz.func60, Tryz.ntmps60
  go_wp2_with fail
  refine (HG.out _).mono ?_; rintro e w1 ⟨rfl, m, rfl⟩
  go_wp2_with fail
  go_ret
  exact ⟨rfl, below_drewN hu m⟩

set_option maxHeartbeats 1600000 in
set_option maxRecDepth 100000 in
theorem feet83_any (w : World) : Calls Tryz.prog 51 #[.agg #[.int .i64 8, .int .i64 3]] w fun e w' => (∃ s, e = .returned (.tuple #[.string s, .int .i64 0])) ∧ Below w.heap.size w w' := by
  have hu : Below w.heap.size w (w.alloc (.cells #[.int .i64 8, .int .i64 3] 70)) := (Below.refl _ _).alloc (Nat.le_refl _) _
  have X0 := Blk.new w 70 #[.int .i64 8, .int .i64 3]
  go_enter Tryz.func51, Tryz.ntmps51
  go_wp2_with fail
  generalize w.alloc (.cells #[.int .i64 8, .int .i64 3] 70) = w0 at *
  refine (feet83_valid w0).mono ?_; rintro e w1 ⟨rfl, hb⟩
  have u1 := hu.trans (hb.mono hu.size)
  have X1 := X0.below hb X0.lt
  have x0 := X1.cell 0
  have x1 := X1.cell 1
  simp at x0 x1
  clear hu hb X0
  go_wp2_with fail
  go_quiet (fail)
  have u2 := below_drewN u1 nq
  have X2 : Blk (w1.drewN nq) w.heap.size _ _ := X1.drewN nq
  clear u1 X1 x0 x1
  generalize w1.drewN nq = w2 at *
  have x0 := X2.cell 0
  have x1 := X2.cell 1
  simp at x0 x1
  have hI2 := fun W : World => Tryz.strconv_Itoa_small 2 (by decide) W
  have hI3 := fun W : World => Tryz.strconv_Itoa_small 3 (by decide) W
  have e2 : Lib.decDigits 2 = [50] := by rw [Lib.decDigits, dif_pos (by decide)]; rfl
  have e3 : Lib.decDigits 3 = [51] := by rw [Lib.decDigits, dif_pos (by decide)]; rfl
  rw [e2] at hI2
  rw [e3] at hI3
  have HI2 : Sl (∀ W : World, Calls Tryz.prog 61 #[.int .i64 2] W fun e w' => e = .returned (.string ⟨#[50]⟩) ∧ w' = W) := ⟨hI2⟩
  have HI3 : Sl (∀ W : World, Calls Tryz.prog 61 #[.int .i64 3] W fun e w' => e = .returned (.string ⟨#[51]⟩) ∧ w' = W) := ⟨hI3⟩
  clear hI2 hI3 e2 e3
  go_wp2_with fail
  have hd2 : RowKit.Below w.heap.size w w2.drew := below_drewN u2 1
  have xx1 : w2.drew.cell? ⟨w.heap.size, 1, none⟩ = some (.int .i64 3) := x1
  go_region_with (first
    | (go_at_call 61; (with_reducible refine (HI2.out _).mono ?_); rintro e w3 ⟨rfl, rfl⟩)
    | (go_at_call 61; (with_reducible refine (HI3.out _).mono ?_); rintro e w4 ⟨rfl, rfl⟩)
    | fail)
  all_goals (
    clear x0 x1 X2 u2
    generalize w2.drew = w5 at *
    go_wp2_with fail
    refine (HI2.out _).mono ?_; rintro e w6 ⟨rfl, rfl⟩
    go_wp2_with fail
    go_ret2
    exact ⟨⟨_, rfl⟩, hd2⟩)
end Go.Proofs.YtkjkbhkcebbjdaaGreatDoor
