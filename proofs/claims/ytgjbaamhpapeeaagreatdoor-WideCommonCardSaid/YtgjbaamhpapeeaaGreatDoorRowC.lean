/- Rows that list more tables and Go's two errors of numbers: the list, a world for the witness. -/
import Derived.Test.YtgjbaamhpapeeaaGreatDoorRowA
import Derived.Lay
import Derived.ChangeMaps5
namespace Go.Proofs.YtgjbaamhpapeeaaGreatDoor
open Go.ChangeShapes Go.WideShapes Go.ChangeAt Go.RowKit
set_option linter.unusedVariables false
set_option linter.unusedSimpArgs false

theorem gErr : Tryz.prog.globalNamed "strconv.ErrRange" = some 1 := by kernel_rfl
def laidL2 : List (String × DataW Unit) := [("math/bits.deBruijn32tab", Rows.laid_math_bits_deBruijn32tab), ("math/bits.deBruijn64tab", Rows.laid_math_bits_deBruijn64tab), ("internal/strconv.uint64pow10", Rows.laid_internal_strconv_uint64pow10), ("unicode/utf8.acceptRanges", Rows.laid_unicode_utf8_acceptRanges), ("strconv.ErrRange", Rows.laid_strconv_ErrRange), ("strconv.ErrSyntax", Rows.laid_strconv_ErrSyntax), ("unicode/utf8.first", Rows.laid_unicode_utf8_first)]
theorem laidL2_tab {W : World} (h : laidMetH Tryz.prog laidL2 W) : Tab10 W := by
  have h1 : laidMet Tryz.prog laidL2 W := h
  have h2 := h1.tail.tail
  rw [tab_eq] at h2
  obtain ⟨t, e, n, hty, ht, he, hce, hct⟩ : ∃ t e n, (Tryz.prog.globals[4]?).map (·.type) = some t ∧ Tryz.prog.underlying t = some (.array n e) ∧ Tryz.prog.underlying e = some (.int .u64) ∧ Tryz.prog.cellsOf e = 1 ∧ Tryz.prog.cellsOf t = n :=
    ⟨171, 51, 20, by kernel_rfl, by kernel_rfl, by kernel_rfl, by kernel_rfl, by kernel_rfl⟩
  exact Lib.tabIs_of_head gTab hty ht he hce hct h2
noncomputable def laidWorld2 (os : Os) : World := World.laidAll Tryz.prog os laidL2
theorem laid_met2 (os : Os) (args : Array Value) : laidMet Tryz.prog laidL2 ((laidWorld2 os).forCall (fun _ _ => 0) ⟨#[], args, []⟩).memory :=
  laidMet_laidAll args (by kernel_rfl) (by kernel_rfl)
end Go.Proofs.YtgjbaamhpapeeaaGreatDoor
