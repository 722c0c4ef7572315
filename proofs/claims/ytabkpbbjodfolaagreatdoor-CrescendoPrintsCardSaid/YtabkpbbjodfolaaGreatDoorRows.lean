/-
  NARROWER THAN 'FOR EVERY INPUT', by the rows' own cells (each row's printed sentence says how): CrescendoFull: laid · CrescendoKnown: laid · CrescendoSequence: laid · CrescendoUndo: laid · CrescendoPrints: laid · CrescendoParses: laid.
  DERIVED. THE GIVEN ROWS OF THIS SEAT. 6 by the template 'for every input the law returns true; each argument reads behind the call as it read before'; 0 by the template 'total and deterministic' (their statements: YtabkpbbjodfolaaGreatDoorTotals.lean).
  GIVEN WITH THE SEED: the statements are not yours to turn. If you find one false, say at which input.
  Laid BY PROGRAM, IN A SANDBOX (cutbox-rows.mjs): the forced cells as the released guide's own fill.sh prints them over the translation 19dbdf282f361528… (all of the seat's roots in one cut). By AI agents, Wed Nov 11 2026. No macro, syntax, notation, axiom, sorry.
-/
import Derived.Test.YtabkpbbjodfolaaGreatDoorChecked
import GoSem.PinnedTables
import GoSem.Claim
import GoSem.ClaimJoined
import GoSem.ClaimMapViews
import Derived.JoinedTies
import Derived.KernelRfl
namespace Go.Proofs.YtabkpbbjodfolaaGreatDoor
/- THE CELL 'sum', in the pinned program and in every row, IS THE sha256 OF THE DUMP (.gsa) THAT YtabkpbbjodfolaaGreatDoorProg.lean LOADS. Nothing in Lean hashes anything: it is a label: what it is worth is what the hold of that sum in a sandbox is worth. -/
noncomputable def Tryz.pinned : Pinned := { name := "ytabkpbbjodfolaagreatdoor", sum := "19dbdf282f3615289f8670b05e3db497a8c15aab5719ff1adaf8e224cf4f9311", checked := Tryz.checked }
namespace Rows
def none {H : Type} : Left H := { results := [], args := [] }

/- WHAT THE LISTED PACKAGE-LEVEL VARIABLES READ AS WHEN THE CALL BEGINS. Each datum BY PROGRAM (the guide's laid-datum.mjs) off the statement by which the dump's own 'gosem.cut.vars' lays the variable. In a bare row this is a premise. The card (YtabkpbbjodfolaaGreatDoorCards.lean) ties it to the program's text. -/
def laid_math_bits_deBruijn32tab {H : Type} : DataW H := .agg [.lit (.int .u8 0), .lit (.int .u8 1), .lit (.int .u8 28), .lit (.int .u8 2), .lit (.int .u8 29), .lit (.int .u8 14), .lit (.int .u8 24), .lit (.int .u8 3), .lit (.int .u8 30), .lit (.int .u8 22), .lit (.int .u8 20), .lit (.int .u8 15), .lit (.int .u8 25), .lit (.int .u8 17), .lit (.int .u8 4), .lit (.int .u8 8), .lit (.int .u8 31), .lit (.int .u8 27), .lit (.int .u8 13), .lit (.int .u8 23), .lit (.int .u8 21), .lit (.int .u8 19), .lit (.int .u8 16), .lit (.int .u8 7), .lit (.int .u8 26), .lit (.int .u8 12), .lit (.int .u8 18), .lit (.int .u8 6), .lit (.int .u8 11), .lit (.int .u8 5), .lit (.int .u8 10), .lit (.int .u8 9)]
def laid_math_bits_deBruijn64tab {H : Type} : DataW H := .agg [.lit (.int .u8 0), .lit (.int .u8 1), .lit (.int .u8 56), .lit (.int .u8 2), .lit (.int .u8 57), .lit (.int .u8 49), .lit (.int .u8 28), .lit (.int .u8 3), .lit (.int .u8 61), .lit (.int .u8 58), .lit (.int .u8 42), .lit (.int .u8 50), .lit (.int .u8 38), .lit (.int .u8 29), .lit (.int .u8 17), .lit (.int .u8 4), .lit (.int .u8 62), .lit (.int .u8 47), .lit (.int .u8 59), .lit (.int .u8 36), .lit (.int .u8 45), .lit (.int .u8 43), .lit (.int .u8 51), .lit (.int .u8 22), .lit (.int .u8 53), .lit (.int .u8 39), .lit (.int .u8 33), .lit (.int .u8 30), .lit (.int .u8 24), .lit (.int .u8 18), .lit (.int .u8 12), .lit (.int .u8 5), .lit (.int .u8 63), .lit (.int .u8 55), .lit (.int .u8 48), .lit (.int .u8 27), .lit (.int .u8 60), .lit (.int .u8 41), .lit (.int .u8 37), .lit (.int .u8 16), .lit (.int .u8 46), .lit (.int .u8 35), .lit (.int .u8 44), .lit (.int .u8 21), .lit (.int .u8 52), .lit (.int .u8 32), .lit (.int .u8 23), .lit (.int .u8 11), .lit (.int .u8 54), .lit (.int .u8 26), .lit (.int .u8 40), .lit (.int .u8 15), .lit (.int .u8 34), .lit (.int .u8 20), .lit (.int .u8 31), .lit (.int .u8 10), .lit (.int .u8 25), .lit (.int .u8 14), .lit (.int .u8 19), .lit (.int .u8 9), .lit (.int .u8 13), .lit (.int .u8 8), .lit (.int .u8 7), .lit (.int .u8 6)]
def laid_internal_strconv_uint64pow10 {H : Type} : DataW H := .agg [.lit (.int .u64 1), .lit (.int .u64 10), .lit (.int .u64 100), .lit (.int .u64 1000), .lit (.int .u64 10000), .lit (.int .u64 100000), .lit (.int .u64 1000000), .lit (.int .u64 10000000), .lit (.int .u64 100000000), .lit (.int .u64 1000000000), .lit (.int .u64 10000000000), .lit (.int .u64 100000000000), .lit (.int .u64 1000000000000), .lit (.int .u64 10000000000000), .lit (.int .u64 100000000000000), .lit (.int .u64 1000000000000000), .lit (.int .u64 10000000000000000), .lit (.int .u64 100000000000000000), .lit (.int .u64 1000000000000000000), .lit (.int .u64 10000000000000000000)]
def laid_unicode_utf8_acceptRanges {H : Type} : DataW H := .agg [.agg [.lit (.int .u8 128), .lit (.int .u8 191)], .agg [.lit (.int .u8 160), .lit (.int .u8 191)], .agg [.lit (.int .u8 128), .lit (.int .u8 159)], .agg [.lit (.int .u8 144), .lit (.int .u8 191)], .agg [.lit (.int .u8 128), .lit (.int .u8 143)], .agg [.lit (.int .u8 0), .lit (.int .u8 0)], .agg [.lit (.int .u8 0), .lit (.int .u8 0)], .agg [.lit (.int .u8 0), .lit (.int .u8 0)], .agg [.lit (.int .u8 0), .lit (.int .u8 0)], .agg [.lit (.int .u8 0), .lit (.int .u8 0)], .agg [.lit (.int .u8 0), .lit (.int .u8 0)], .agg [.lit (.int .u8 0), .lit (.int .u8 0)], .agg [.lit (.int .u8 0), .lit (.int .u8 0)], .agg [.lit (.int .u8 0), .lit (.int .u8 0)], .agg [.lit (.int .u8 0), .lit (.int .u8 0)], .agg [.lit (.int .u8 0), .lit (.int .u8 0)]]
/-- One of Go's own tables, pinned by name: the form's constant. -/
def laid_unicode_utf8_first : DataW Unit := Go.Pinned.utf8First

/-- 'quintadenalaw22.CrescendoFull': WHATEVER THE INPUT: true; the input reads as it did. -/
def crescendoFullSpec : ChangeSpec := { name := "crescendoFull", fn := fun _ => fun
  | [d1, d2] => { results := [.lit (.bool true)], args := [d1, d2] }
  | _ => none }
def crescendoFullRow : OpenClaim := { program := "ytabkpbbjodfolaagreatdoor", sum := "19dbdf282f3615289f8670b05e3db497a8c15aab5719ff1adaf8e224cf4f9311", func := "quintadena/quintadenalaw22.CrescendoFull", spec := "crescendoFull", inPlace := ["internal/abi.NoEscape", "internal/bytealg.MakeNoZero", "slices.overlaps[quintadena/api.Registration]"], unfollowed := true, recurses := true, named := ["internal/strconv.uint64pow10", "math/bits.deBruijn32tab", "math/bits.deBruijn64tab"], apart := false, laid := [("math/bits.deBruijn32tab", laid_math_bits_deBruijn32tab), ("math/bits.deBruijn64tab", laid_math_bits_deBruijn64tab), ("internal/strconv.uint64pow10", laid_internal_strconv_uint64pow10)] }
def CrescendoFullSaid : Prop := crescendoFullRow.holds Tryz.pinned (OpenSpec.ofChange crescendoFullSpec)

/-- ITS FALSE NEIGHBOUR: 'it returns false'. Refute it at one input. -/
def crescendoFullWrong : ChangeSpec := { name := "crescendoFull", fn := fun _ => fun
  | [d1, d2] => { results := [.lit (.bool false)], args := [d1, d2] }
  | _ => none }
def CrescendoFullWrongFalsely : Prop := crescendoFullRow.holds Tryz.pinned (OpenSpec.ofChange crescendoFullWrong)

/-- 'quintadenalaw22.CrescendoKnown': WHATEVER THE INPUT: true; the input reads as it did. -/
def crescendoKnownSpec : ChangeSpec := { name := "crescendoKnown", fn := fun _ => fun
  | [] => { results := [.lit (.bool true)], args := [] }
  | _ => none }
def crescendoKnownRow : OpenClaim := { program := "ytabkpbbjodfolaagreatdoor", sum := "19dbdf282f3615289f8670b05e3db497a8c15aab5719ff1adaf8e224cf4f9311", func := "quintadena/quintadenalaw22.CrescendoKnown", spec := "crescendoKnown", inPlace := ["slices.overlaps[quintadena/api.Registration]", "internal/abi.NoEscape", "internal/bytealg.MakeNoZero"], unfollowed := true, recurses := true, named := ["internal/strconv.uint64pow10", "math/bits.deBruijn32tab", "math/bits.deBruijn64tab"], apart := false, laid := [("math/bits.deBruijn32tab", laid_math_bits_deBruijn32tab), ("math/bits.deBruijn64tab", laid_math_bits_deBruijn64tab), ("internal/strconv.uint64pow10", laid_internal_strconv_uint64pow10)] }
def CrescendoKnownSaid : Prop := crescendoKnownRow.holds Tryz.pinned (OpenSpec.ofChange crescendoKnownSpec)

/-- ITS FALSE NEIGHBOUR: 'it returns false'. Refute it at one input. -/
def crescendoKnownWrong : ChangeSpec := { name := "crescendoKnown", fn := fun _ => fun
  | [] => { results := [.lit (.bool false)], args := [] }
  | _ => none }
def CrescendoKnownWrongFalsely : Prop := crescendoKnownRow.holds Tryz.pinned (OpenSpec.ofChange crescendoKnownWrong)

/-- 'quintadenalaw22.CrescendoSequence': WHATEVER THE INPUT: true; the input reads as it did. -/
def crescendoSequenceSpec : ChangeSpec := { name := "crescendoSequence", fn := fun _ => fun
  | [d1, d2] => { results := [.lit (.bool true)], args := [d1, d2] }
  | _ => none }
def crescendoSequenceRow : OpenClaim := { program := "ytabkpbbjodfolaagreatdoor", sum := "19dbdf282f3615289f8670b05e3db497a8c15aab5719ff1adaf8e224cf4f9311", func := "quintadena/quintadenalaw22.CrescendoSequence", spec := "crescendoSequence", inPlace := ["internal/abi.NoEscape", "internal/bytealg.MakeNoZero", "slices.overlaps[quintadena/api.Registration]"], unfollowed := true, recurses := true, named := ["internal/strconv.uint64pow10", "math/bits.deBruijn32tab", "math/bits.deBruijn64tab"], apart := false, laid := [("math/bits.deBruijn32tab", laid_math_bits_deBruijn32tab), ("math/bits.deBruijn64tab", laid_math_bits_deBruijn64tab), ("internal/strconv.uint64pow10", laid_internal_strconv_uint64pow10)] }
def CrescendoSequenceSaid : Prop := crescendoSequenceRow.holds Tryz.pinned (OpenSpec.ofChange crescendoSequenceSpec)

/-- ITS FALSE NEIGHBOUR: 'it returns false'. Refute it at one input. -/
def crescendoSequenceWrong : ChangeSpec := { name := "crescendoSequence", fn := fun _ => fun
  | [d1, d2] => { results := [.lit (.bool false)], args := [d1, d2] }
  | _ => none }
def CrescendoSequenceWrongFalsely : Prop := crescendoSequenceRow.holds Tryz.pinned (OpenSpec.ofChange crescendoSequenceWrong)

/-- 'quintadenalaw22.CrescendoUndo': WHATEVER THE INPUT: true; the input reads as it did. -/
def crescendoUndoSpec : ChangeSpec := { name := "crescendoUndo", fn := fun _ => fun
  | [d1, d2] => { results := [.lit (.bool true)], args := [d1, d2] }
  | _ => none }
def crescendoUndoRow : OpenClaim := { program := "ytabkpbbjodfolaagreatdoor", sum := "19dbdf282f3615289f8670b05e3db497a8c15aab5719ff1adaf8e224cf4f9311", func := "quintadena/quintadenalaw22.CrescendoUndo", spec := "crescendoUndo", inPlace := ["internal/abi.NoEscape", "internal/bytealg.MakeNoZero", "slices.overlaps[quintadena/api.Registration]"], unfollowed := true, recurses := true, named := ["internal/strconv.uint64pow10", "math/bits.deBruijn32tab", "math/bits.deBruijn64tab"], apart := false, laid := [("math/bits.deBruijn32tab", laid_math_bits_deBruijn32tab), ("math/bits.deBruijn64tab", laid_math_bits_deBruijn64tab), ("internal/strconv.uint64pow10", laid_internal_strconv_uint64pow10)] }
def CrescendoUndoSaid : Prop := crescendoUndoRow.holds Tryz.pinned (OpenSpec.ofChange crescendoUndoSpec)

/-- ITS FALSE NEIGHBOUR: 'it returns false'. Refute it at one input. -/
def crescendoUndoWrong : ChangeSpec := { name := "crescendoUndo", fn := fun _ => fun
  | [d1, d2] => { results := [.lit (.bool false)], args := [d1, d2] }
  | _ => none }
def CrescendoUndoWrongFalsely : Prop := crescendoUndoRow.holds Tryz.pinned (OpenSpec.ofChange crescendoUndoWrong)

/-- 'quintadenalaw22.CrescendoPrints': WHATEVER THE INPUT: true; the input reads as it did. -/
def crescendoPrintsSpec : ChangeSpec := { name := "crescendoPrints", fn := fun _ => fun
  | [d1, d2] => { results := [.lit (.bool true)], args := [d1, d2] }
  | _ => none }
def crescendoPrintsRow : OpenClaim := { program := "ytabkpbbjodfolaagreatdoor", sum := "19dbdf282f3615289f8670b05e3db497a8c15aab5719ff1adaf8e224cf4f9311", func := "quintadena/quintadenalaw22.CrescendoPrints", spec := "crescendoPrints", inPlace := ["internal/abi.NoEscape", "internal/bytealg.MakeNoZero", "internal/bytealg.CountString", "internal/bytealg.IndexByteString", "internal/bytealg.IndexString"], unfollowed := true, recurses := true, named := ["internal/strconv.uint64pow10", "math/bits.deBruijn32tab", "math/bits.deBruijn64tab", "internal/bytealg.MaxLen", "unicode/utf8.first", "unicode/utf8.acceptRanges"], apart := false, laid := [("math/bits.deBruijn32tab", laid_math_bits_deBruijn32tab), ("math/bits.deBruijn64tab", laid_math_bits_deBruijn64tab), ("internal/strconv.uint64pow10", laid_internal_strconv_uint64pow10), ("unicode/utf8.acceptRanges", laid_unicode_utf8_acceptRanges), ("unicode/utf8.first", laid_unicode_utf8_first)] }
def CrescendoPrintsSaid : Prop := crescendoPrintsRow.holds Tryz.pinned (OpenSpec.ofChange crescendoPrintsSpec)

/-- ITS FALSE NEIGHBOUR: 'it returns false'. Refute it at one input. -/
def crescendoPrintsWrong : ChangeSpec := { name := "crescendoPrints", fn := fun _ => fun
  | [d1, d2] => { results := [.lit (.bool false)], args := [d1, d2] }
  | _ => none }
def CrescendoPrintsWrongFalsely : Prop := crescendoPrintsRow.holds Tryz.pinned (OpenSpec.ofChange crescendoPrintsWrong)

/-- 'quintadenalaw22.CrescendoParses': WHATEVER THE INPUT: true; the input reads as it did. -/
def crescendoParsesSpec : ChangeSpec := { name := "crescendoParses", fn := fun _ => fun
  | [d1, d2] => { results := [.lit (.bool true)], args := [d1, d2] }
  | _ => none }
def crescendoParsesRow : OpenClaim := { program := "ytabkpbbjodfolaagreatdoor", sum := "19dbdf282f3615289f8670b05e3db497a8c15aab5719ff1adaf8e224cf4f9311", func := "quintadena/quintadenalaw22.CrescendoParses", spec := "crescendoParses", inPlace := ["internal/abi.NoEscape", "internal/bytealg.MakeNoZero", "internal/bytealg.CountString", "internal/bytealg.IndexByteString", "internal/bytealg.IndexString"], unfollowed := true, recurses := true, named := ["internal/strconv.uint64pow10", "math/bits.deBruijn32tab", "math/bits.deBruijn64tab", "internal/bytealg.MaxLen", "unicode/utf8.first", "unicode/utf8.acceptRanges"], apart := false, laid := [("math/bits.deBruijn32tab", laid_math_bits_deBruijn32tab), ("math/bits.deBruijn64tab", laid_math_bits_deBruijn64tab), ("internal/strconv.uint64pow10", laid_internal_strconv_uint64pow10), ("unicode/utf8.acceptRanges", laid_unicode_utf8_acceptRanges), ("unicode/utf8.first", laid_unicode_utf8_first)] }
def CrescendoParsesSaid : Prop := crescendoParsesRow.holds Tryz.pinned (OpenSpec.ofChange crescendoParsesSpec)

/-- ITS FALSE NEIGHBOUR: 'it returns false'. Refute it at one input. -/
def crescendoParsesWrong : ChangeSpec := { name := "crescendoParses", fn := fun _ => fun
  | [d1, d2] => { results := [.lit (.bool false)], args := [d1, d2] }
  | _ => none }
def CrescendoParsesWrongFalsely : Prop := crescendoParsesRow.holds Tryz.pinned (OpenSpec.ofChange crescendoParsesWrong)

/- THE SECOND FORM. 'bulk': how many values and letters a reading holds, each counted each time it is reached (what is shared counts as often as it is met; a slice's spare places count too). A statement '..UptoSaid' is the law's where the arguments, and the package variables that the reading takes, are together of bulk at most 1048576: NARROWER than '..Said'. Prove '..Said' where nothing that the law and all that it calls make is longer than what came in: it says more and counts as full. Else prove '..UptoSaid'. A law counts once. -/
mutual
def uptoBulk {H : Type} : DataW H → Nat
  | .lit (.string bytes) => bytes.length + 1
  | .lit _ => 1
  | .nil => 1
  | .ptr d => uptoBulk d + 1
  | .slice elems spare => uptoBulkAll elems + uptoBulkAll spare + 1
  | .agg parts => uptoBulkAll parts + 1
  | .iface _ d => uptoBulk d + 1
  | .map entries => uptoBulkEntries entries + 1
  | .held _ => 1
def uptoBulkAll {H : Type} : List (DataW H) → Nat
  | [] => 0
  | d :: r => uptoBulk d + uptoBulkAll r
def uptoBulkEntries {H : Type} : List (Lit × DataW H) → Nat
  | [] => 0
  | x :: r => uptoBulkEntry x + uptoBulkEntries r
def uptoBulkEntry {H : Type} : Lit × DataW H → Nat
  | (.string bytes, d) => bytes.length + uptoBulk d + 1
  | (_, d) => uptoBulk d + 1
 end
def uptoSmall : (H : Type) → List (DataW H) → Bool := fun _ ds => decide (uptoBulkAll ds ≤ 1048576)
def OpenSpec.upto (s : _root_.Go.ChangeSpec) : _root_.Go.OpenSpec := { _root_.Go.OpenSpec.ofChange s with cond := some uptoSmall }

/-- 'quintadenalaw22.CrescendoFull', WHERE WHAT IT READS IS OF BULK AT MOST 1048576: true; the input reads as it did. -/
def crescendoFullUptoRow : OpenClaim := { program := "ytabkpbbjodfolaagreatdoor", sum := "19dbdf282f3615289f8670b05e3db497a8c15aab5719ff1adaf8e224cf4f9311", func := "quintadena/quintadenalaw22.CrescendoFull", spec := "crescendoFull", inPlace := ["internal/abi.NoEscape", "internal/bytealg.MakeNoZero", "slices.overlaps[quintadena/api.Registration]"], unfollowed := true, recurses := true, named := ["internal/strconv.uint64pow10", "math/bits.deBruijn32tab", "math/bits.deBruijn64tab"], apart := false, laid := [("math/bits.deBruijn32tab", laid_math_bits_deBruijn32tab), ("math/bits.deBruijn64tab", laid_math_bits_deBruijn64tab), ("internal/strconv.uint64pow10", laid_internal_strconv_uint64pow10)], narrowed := true }
def CrescendoFullUptoSaid : Prop := crescendoFullUptoRow.holds Tryz.pinned (OpenSpec.upto crescendoFullSpec)

/-- 'quintadenalaw22.CrescendoKnown', WHERE WHAT IT READS IS OF BULK AT MOST 1048576: true; the input reads as it did. -/
def crescendoKnownUptoRow : OpenClaim := { program := "ytabkpbbjodfolaagreatdoor", sum := "19dbdf282f3615289f8670b05e3db497a8c15aab5719ff1adaf8e224cf4f9311", func := "quintadena/quintadenalaw22.CrescendoKnown", spec := "crescendoKnown", inPlace := ["slices.overlaps[quintadena/api.Registration]", "internal/abi.NoEscape", "internal/bytealg.MakeNoZero"], unfollowed := true, recurses := true, named := ["internal/strconv.uint64pow10", "math/bits.deBruijn32tab", "math/bits.deBruijn64tab"], apart := false, laid := [("math/bits.deBruijn32tab", laid_math_bits_deBruijn32tab), ("math/bits.deBruijn64tab", laid_math_bits_deBruijn64tab), ("internal/strconv.uint64pow10", laid_internal_strconv_uint64pow10)], narrowed := true }
def CrescendoKnownUptoSaid : Prop := crescendoKnownUptoRow.holds Tryz.pinned (OpenSpec.upto crescendoKnownSpec)

/-- 'quintadenalaw22.CrescendoSequence', WHERE WHAT IT READS IS OF BULK AT MOST 1048576: true; the input reads as it did. -/
def crescendoSequenceUptoRow : OpenClaim := { program := "ytabkpbbjodfolaagreatdoor", sum := "19dbdf282f3615289f8670b05e3db497a8c15aab5719ff1adaf8e224cf4f9311", func := "quintadena/quintadenalaw22.CrescendoSequence", spec := "crescendoSequence", inPlace := ["internal/abi.NoEscape", "internal/bytealg.MakeNoZero", "slices.overlaps[quintadena/api.Registration]"], unfollowed := true, recurses := true, named := ["internal/strconv.uint64pow10", "math/bits.deBruijn32tab", "math/bits.deBruijn64tab"], apart := false, laid := [("math/bits.deBruijn32tab", laid_math_bits_deBruijn32tab), ("math/bits.deBruijn64tab", laid_math_bits_deBruijn64tab), ("internal/strconv.uint64pow10", laid_internal_strconv_uint64pow10)], narrowed := true }
def CrescendoSequenceUptoSaid : Prop := crescendoSequenceUptoRow.holds Tryz.pinned (OpenSpec.upto crescendoSequenceSpec)

/-- 'quintadenalaw22.CrescendoUndo', WHERE WHAT IT READS IS OF BULK AT MOST 1048576: true; the input reads as it did. -/
def crescendoUndoUptoRow : OpenClaim := { program := "ytabkpbbjodfolaagreatdoor", sum := "19dbdf282f3615289f8670b05e3db497a8c15aab5719ff1adaf8e224cf4f9311", func := "quintadena/quintadenalaw22.CrescendoUndo", spec := "crescendoUndo", inPlace := ["internal/abi.NoEscape", "internal/bytealg.MakeNoZero", "slices.overlaps[quintadena/api.Registration]"], unfollowed := true, recurses := true, named := ["internal/strconv.uint64pow10", "math/bits.deBruijn32tab", "math/bits.deBruijn64tab"], apart := false, laid := [("math/bits.deBruijn32tab", laid_math_bits_deBruijn32tab), ("math/bits.deBruijn64tab", laid_math_bits_deBruijn64tab), ("internal/strconv.uint64pow10", laid_internal_strconv_uint64pow10)], narrowed := true }
def CrescendoUndoUptoSaid : Prop := crescendoUndoUptoRow.holds Tryz.pinned (OpenSpec.upto crescendoUndoSpec)

/-- 'quintadenalaw22.CrescendoPrints', WHERE WHAT IT READS IS OF BULK AT MOST 1048576: true; the input reads as it did. -/
def crescendoPrintsUptoRow : OpenClaim := { program := "ytabkpbbjodfolaagreatdoor", sum := "19dbdf282f3615289f8670b05e3db497a8c15aab5719ff1adaf8e224cf4f9311", func := "quintadena/quintadenalaw22.CrescendoPrints", spec := "crescendoPrints", inPlace := ["internal/abi.NoEscape", "internal/bytealg.MakeNoZero", "internal/bytealg.CountString", "internal/bytealg.IndexByteString", "internal/bytealg.IndexString"], unfollowed := true, recurses := true, named := ["internal/strconv.uint64pow10", "math/bits.deBruijn32tab", "math/bits.deBruijn64tab", "internal/bytealg.MaxLen", "unicode/utf8.first", "unicode/utf8.acceptRanges"], apart := false, laid := [("math/bits.deBruijn32tab", laid_math_bits_deBruijn32tab), ("math/bits.deBruijn64tab", laid_math_bits_deBruijn64tab), ("internal/strconv.uint64pow10", laid_internal_strconv_uint64pow10), ("unicode/utf8.acceptRanges", laid_unicode_utf8_acceptRanges), ("unicode/utf8.first", laid_unicode_utf8_first)], narrowed := true }
def CrescendoPrintsUptoSaid : Prop := crescendoPrintsUptoRow.holds Tryz.pinned (OpenSpec.upto crescendoPrintsSpec)

/-- 'quintadenalaw22.CrescendoParses', WHERE WHAT IT READS IS OF BULK AT MOST 1048576: true; the input reads as it did. -/
def crescendoParsesUptoRow : OpenClaim := { program := "ytabkpbbjodfolaagreatdoor", sum := "19dbdf282f3615289f8670b05e3db497a8c15aab5719ff1adaf8e224cf4f9311", func := "quintadena/quintadenalaw22.CrescendoParses", spec := "crescendoParses", inPlace := ["internal/abi.NoEscape", "internal/bytealg.MakeNoZero", "internal/bytealg.CountString", "internal/bytealg.IndexByteString", "internal/bytealg.IndexString"], unfollowed := true, recurses := true, named := ["internal/strconv.uint64pow10", "math/bits.deBruijn32tab", "math/bits.deBruijn64tab", "internal/bytealg.MaxLen", "unicode/utf8.first", "unicode/utf8.acceptRanges"], apart := false, laid := [("math/bits.deBruijn32tab", laid_math_bits_deBruijn32tab), ("math/bits.deBruijn64tab", laid_math_bits_deBruijn64tab), ("internal/strconv.uint64pow10", laid_internal_strconv_uint64pow10), ("unicode/utf8.acceptRanges", laid_unicode_utf8_acceptRanges), ("unicode/utf8.first", laid_unicode_utf8_first)], narrowed := true }
def CrescendoParsesUptoSaid : Prop := crescendoParsesUptoRow.holds Tryz.pinned (OpenSpec.upto crescendoParsesSpec)

end Rows
end Go.Proofs.YtabkpbbjodfolaaGreatDoor
