/-
  DERIVED. GIVEN WITH THE SEED: THE CARDS: each row of YtabkpbbjodfolaaGreatDoorRows.lean that lists a variable, with what it lists TIED to the program's text (the seventh form; the later family's looks); each row that meets fmt, with fmt's text TOLD by the authors' own Lean function (tested against real Go, not proved from fmt's source: count such statements apart). THE CARD IS WHAT COUNTS. Prove the row's statement (the work); the ties are given (YtabkpbbjodfolaaGreatDoorTie.lean); close each card by the builder's one call (the guide's Derived/Test/ToyasCard.lean, 'card_holds'). Laid BY PROGRAM, IN A SANDBOX (cutbox-door.mjs). By AI agents, Wed Nov 11 2026. No macro, syntax, notation, axiom, sorry.
-/
import Derived.Test.YtabkpbbjodfolaaGreatDoorRows
import GoSem.ClaimSeven
namespace Go.Proofs.YtabkpbbjodfolaaGreatDoor
namespace Rows

/-- THE TIED CARD OF 'quintadenalaw22.CrescendoFull'. -/
def crescendoFullCard : Claim7 := { stood := { row := crescendoFullRow, standIns := [], harness := (true, "7d8b7ec973f2ae0b2e3b321fb4ca3279e54ae036e897db1333a890cccc26c77c"), looks := false }, kinds := [], alts := [], laidByText := true, laidKinds := [.data, .data, .data], laidTests := true, laidLooks := .later }
def CrescendoFullCardSaid : Prop := Claim7.holds Tryz.pinned (.plain (OpenSpec.ofChange crescendoFullSpec)) crescendoFullCard

/-- THE TIED CARD OF 'quintadenalaw22.CrescendoKnown'. -/
def crescendoKnownCard : Claim7 := { stood := { row := crescendoKnownRow, standIns := [], harness := (true, "7d8b7ec973f2ae0b2e3b321fb4ca3279e54ae036e897db1333a890cccc26c77c"), looks := false }, kinds := [], alts := [], laidByText := true, laidKinds := [.data, .data, .data], laidTests := true, laidLooks := .later }
def CrescendoKnownCardSaid : Prop := Claim7.holds Tryz.pinned (.plain (OpenSpec.ofChange crescendoKnownSpec)) crescendoKnownCard

/-- THE TIED CARD OF 'quintadenalaw22.CrescendoSequence'. -/
def crescendoSequenceCard : Claim7 := { stood := { row := crescendoSequenceRow, standIns := [], harness := (true, "7d8b7ec973f2ae0b2e3b321fb4ca3279e54ae036e897db1333a890cccc26c77c"), looks := false }, kinds := [], alts := [], laidByText := true, laidKinds := [.data, .data, .data], laidTests := true, laidLooks := .later }
def CrescendoSequenceCardSaid : Prop := Claim7.holds Tryz.pinned (.plain (OpenSpec.ofChange crescendoSequenceSpec)) crescendoSequenceCard

/-- THE TIED CARD OF 'quintadenalaw22.CrescendoUndo'. -/
def crescendoUndoCard : Claim7 := { stood := { row := crescendoUndoRow, standIns := [], harness := (true, "7d8b7ec973f2ae0b2e3b321fb4ca3279e54ae036e897db1333a890cccc26c77c"), looks := false }, kinds := [], alts := [], laidByText := true, laidKinds := [.data, .data, .data], laidTests := true, laidLooks := .later }
def CrescendoUndoCardSaid : Prop := Claim7.holds Tryz.pinned (.plain (OpenSpec.ofChange crescendoUndoSpec)) crescendoUndoCard

/-- THE TIED CARD OF 'quintadenalaw22.CrescendoPrints'. -/
def crescendoPrintsCard : Claim7 := { stood := { row := crescendoPrintsRow, standIns := [], harness := (true, "7d8b7ec973f2ae0b2e3b321fb4ca3279e54ae036e897db1333a890cccc26c77c"), looks := false }, kinds := [], alts := [], laidByText := true, laidKinds := [.data, .data, .data, .data, .pinned], laidTests := true, laidLooks := .later }
def CrescendoPrintsCardSaid : Prop := Claim7.holds Tryz.pinned (.plain (OpenSpec.ofChange crescendoPrintsSpec)) crescendoPrintsCard

/-- THE TIED CARD OF 'quintadenalaw22.CrescendoParses'. -/
def crescendoParsesCard : Claim7 := { stood := { row := crescendoParsesRow, standIns := [], harness := (true, "7d8b7ec973f2ae0b2e3b321fb4ca3279e54ae036e897db1333a890cccc26c77c"), looks := false }, kinds := [], alts := [], laidByText := true, laidKinds := [.data, .data, .data, .data, .pinned], laidTests := true, laidLooks := .later }
def CrescendoParsesCardSaid : Prop := Claim7.holds Tryz.pinned (.plain (OpenSpec.ofChange crescendoParsesSpec)) crescendoParsesCard

/-- THE SECOND FORM's CARD OF 'quintadenalaw22.CrescendoFull'. -/
def crescendoFullUptoCard : Claim7 := { stood := { row := crescendoFullUptoRow, standIns := [], harness := (true, "7d8b7ec973f2ae0b2e3b321fb4ca3279e54ae036e897db1333a890cccc26c77c"), looks := false }, kinds := [], alts := [], laidByText := true, laidKinds := [.data, .data, .data], laidTests := true, laidLooks := .later }
def CrescendoFullUptoCardSaid : Prop := Claim7.holds Tryz.pinned (.plain (OpenSpec.upto crescendoFullSpec)) crescendoFullUptoCard

/-- THE SECOND FORM's CARD OF 'quintadenalaw22.CrescendoKnown'. -/
def crescendoKnownUptoCard : Claim7 := { stood := { row := crescendoKnownUptoRow, standIns := [], harness := (true, "7d8b7ec973f2ae0b2e3b321fb4ca3279e54ae036e897db1333a890cccc26c77c"), looks := false }, kinds := [], alts := [], laidByText := true, laidKinds := [.data, .data, .data], laidTests := true, laidLooks := .later }
def CrescendoKnownUptoCardSaid : Prop := Claim7.holds Tryz.pinned (.plain (OpenSpec.upto crescendoKnownSpec)) crescendoKnownUptoCard

/-- THE SECOND FORM's CARD OF 'quintadenalaw22.CrescendoSequence'. -/
def crescendoSequenceUptoCard : Claim7 := { stood := { row := crescendoSequenceUptoRow, standIns := [], harness := (true, "7d8b7ec973f2ae0b2e3b321fb4ca3279e54ae036e897db1333a890cccc26c77c"), looks := false }, kinds := [], alts := [], laidByText := true, laidKinds := [.data, .data, .data], laidTests := true, laidLooks := .later }
def CrescendoSequenceUptoCardSaid : Prop := Claim7.holds Tryz.pinned (.plain (OpenSpec.upto crescendoSequenceSpec)) crescendoSequenceUptoCard

/-- THE SECOND FORM's CARD OF 'quintadenalaw22.CrescendoUndo'. -/
def crescendoUndoUptoCard : Claim7 := { stood := { row := crescendoUndoUptoRow, standIns := [], harness := (true, "7d8b7ec973f2ae0b2e3b321fb4ca3279e54ae036e897db1333a890cccc26c77c"), looks := false }, kinds := [], alts := [], laidByText := true, laidKinds := [.data, .data, .data], laidTests := true, laidLooks := .later }
def CrescendoUndoUptoCardSaid : Prop := Claim7.holds Tryz.pinned (.plain (OpenSpec.upto crescendoUndoSpec)) crescendoUndoUptoCard

/-- THE SECOND FORM's CARD OF 'quintadenalaw22.CrescendoPrints'. -/
def crescendoPrintsUptoCard : Claim7 := { stood := { row := crescendoPrintsUptoRow, standIns := [], harness := (true, "7d8b7ec973f2ae0b2e3b321fb4ca3279e54ae036e897db1333a890cccc26c77c"), looks := false }, kinds := [], alts := [], laidByText := true, laidKinds := [.data, .data, .data, .data, .pinned], laidTests := true, laidLooks := .later }
def CrescendoPrintsUptoCardSaid : Prop := Claim7.holds Tryz.pinned (.plain (OpenSpec.upto crescendoPrintsSpec)) crescendoPrintsUptoCard

/-- THE SECOND FORM's CARD OF 'quintadenalaw22.CrescendoParses'. -/
def crescendoParsesUptoCard : Claim7 := { stood := { row := crescendoParsesUptoRow, standIns := [], harness := (true, "7d8b7ec973f2ae0b2e3b321fb4ca3279e54ae036e897db1333a890cccc26c77c"), looks := false }, kinds := [], alts := [], laidByText := true, laidKinds := [.data, .data, .data, .data, .pinned], laidTests := true, laidLooks := .later }
def CrescendoParsesUptoCardSaid : Prop := Claim7.holds Tryz.pinned (.plain (OpenSpec.upto crescendoParsesSpec)) crescendoParsesUptoCard
end Rows
end Go.Proofs.YtabkpbbjodfolaaGreatDoor
