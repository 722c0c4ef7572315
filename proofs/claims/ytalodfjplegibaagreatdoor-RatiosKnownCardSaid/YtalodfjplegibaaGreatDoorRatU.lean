/- Chapter 04: equality of six numbers. -/
import Derived.Test.YtalodfjplegibaaGreatDoorRatH
import Derived.ChangeKeysEq
namespace Go.Proofs.YtalodfjplegibaaGreatDoor
set_option linter.unusedSimpArgs false
open Go.RowKit
set_option linter.unusedVariables false

theorem part6_0 (W : World) (a0 a1 a2 a3 a4 a5 : Int) : (part 3 #[.int .i64 a0, .int .i64 a1, .int .i64 a2, .int .i64 a3, .int .i64 a4, .int .i64 a5] 0).run Tryz.prog W = .ok (.int .i64 a0) W := by kernel_rfl
theorem part6_1 (W : World) (a0 a1 a2 a3 a4 a5 : Int) : (part 3 #[.int .i64 a0, .int .i64 a1, .int .i64 a2, .int .i64 a3, .int .i64 a4, .int .i64 a5] 1).run Tryz.prog W = .ok (.int .i64 a1) W := by kernel_rfl
theorem part6_2 (W : World) (a0 a1 a2 a3 a4 a5 : Int) : (part 3 #[.int .i64 a0, .int .i64 a1, .int .i64 a2, .int .i64 a3, .int .i64 a4, .int .i64 a5] 2).run Tryz.prog W = .ok (.int .i64 a2) W := by kernel_rfl
theorem part6_3 (W : World) (a0 a1 a2 a3 a4 a5 : Int) : (part 3 #[.int .i64 a0, .int .i64 a1, .int .i64 a2, .int .i64 a3, .int .i64 a4, .int .i64 a5] 3).run Tryz.prog W = .ok (.int .i64 a3) W := by kernel_rfl
theorem part6_4 (W : World) (a0 a1 a2 a3 a4 a5 : Int) : (part 3 #[.int .i64 a0, .int .i64 a1, .int .i64 a2, .int .i64 a3, .int .i64 a4, .int .i64 a5] 4).run Tryz.prog W = .ok (.int .i64 a4) W := by kernel_rfl
theorem part6_5 (W : World) (a0 a1 a2 a3 a4 a5 : Int) : (part 3 #[.int .i64 a0, .int .i64 a1, .int .i64 a2, .int .i64 a3, .int .i64 a4, .int .i64 a5] 5).run Tryz.prog W = .ok (.int .i64 a5) W := by kernel_rfl
theorem equal6 (W : World) (a0 a1 a2 a3 a4 a5 : Int) : (Op.equalIn 9999 22 (.agg #[.int .i64 a0, .int .i64 a1, .int .i64 a2, .int .i64 a3, .int .i64 a4, .int .i64 a5]) (.agg #[.int .i64 a0, .int .i64 a1, .int .i64 a2, .int .i64 a3, .int .i64 a4, .int .i64 a5])).run Tryz.prog W = .ok true W := by
  have hsome : (Tryz.prog.info? 3).isSome = true := by kernel_rfl
  obtain ⟨i, hi⟩ := Option.isSome_iff_exists.1 hsome
  have hc : Tryz.prog.cellsOf 3 = 1 := by kernel_rfl
  have he : ∀ (W : World) (z : Int), (Op.equalIn 9998 3 (.int .i64 z) (.int .i64 z)).run Tryz.prog W = .ok true W := fun W z => by
    have := run_equalIn_int (P := Tryz.prog) W 9997 3 .i64 .i64 z z Tryz.underlying3
    rw [this]; simp
  rw [run_equalIn_array W 9998 _ _ Tryz.underlying22 hi, hc]
  have hl : List.range 6 = [0, 1, 2, 3, 4, 5] := by decide
  rw [hl]
  simp [Op.eqItems, Sem.run_bind, part6_0, part6_1, part6_2, part6_3, part6_4, part6_5, he, Result.andThen]
end Go.Proofs.YtalodfjplegibaaGreatDoor
