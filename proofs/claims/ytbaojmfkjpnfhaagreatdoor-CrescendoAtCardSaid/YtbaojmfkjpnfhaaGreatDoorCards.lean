/-
  DERIVED. GIVEN WITH THE SEED: THE CARDS: each row of YtbaojmfkjpnfhaaGreatDoorRows.lean that lists a variable, with what it lists TIED to the program's text (the seventh form; the later family's looks); each row that meets fmt, with fmt's text TOLD by the authors' own Lean function (tested against real Go, not proved from fmt's source: count such statements apart). THE CARD IS WHAT COUNTS. Prove the row's statement (the work); the ties are given (YtbaojmfkjpnfhaaGreatDoorTie.lean); close each card by the builder's one call (the guide's Derived/Test/ToyasCard.lean, 'card_holds'). Laid BY PROGRAM, IN A SANDBOX (cutbox-door.mjs). By AI agents, Wed Nov 11 2026. No macro, syntax, notation, axiom, sorry.
-/
import Derived.Test.YtbaojmfkjpnfhaaGreatDoorRows
import GoSem.ClaimSeven
namespace Go.Proofs.YtbaojmfkjpnfhaaGreatDoor
namespace Rows

/-- THE TIED CARD OF 'quintadenalaw22.CrescendoAt'. -/
def crescendoAtCard : Claim7 := { stood := { row := crescendoAtRow, standIns := [], harness := (true, "d8c7de29b1ba3146abccc39abf5caa918e266e3ec4ef5255c15b1ac914bc45a7"), looks := false }, kinds := [], alts := [], laidByText := true, laidKinds := [.data, .data, .data], laidTests := true, laidLooks := .later }
def CrescendoAtCardSaid : Prop := Claim7.holds Tryz.pinned (.plain (OpenSpec.ofChange crescendoAtSpec)) crescendoAtCard

/-- THE TIED CARD OF 'quintadenalaw22.CrescendoGrows'. -/
def crescendoGrowsCard : Claim7 := { stood := { row := crescendoGrowsRow, standIns := [], harness := (true, "d8c7de29b1ba3146abccc39abf5caa918e266e3ec4ef5255c15b1ac914bc45a7"), looks := false }, kinds := [], alts := [], laidByText := true, laidKinds := [.data, .data, .data], laidTests := true, laidLooks := .later }
def CrescendoGrowsCardSaid : Prop := Claim7.holds Tryz.pinned (.plain (OpenSpec.ofChange crescendoGrowsSpec)) crescendoGrowsCard

/-- THE TIED CARD OF 'quintadenalaw22.CrescendoFull'. -/
def crescendoFullCard : Claim7 := { stood := { row := crescendoFullRow, standIns := [], harness := (true, "d8c7de29b1ba3146abccc39abf5caa918e266e3ec4ef5255c15b1ac914bc45a7"), looks := false }, kinds := [], alts := [], laidByText := true, laidKinds := [.data, .data, .data], laidTests := true, laidLooks := .later }
def CrescendoFullCardSaid : Prop := Claim7.holds Tryz.pinned (.plain (OpenSpec.ofChange crescendoFullSpec)) crescendoFullCard

/-- THE TIED CARD OF 'quintadenalaw22.CrescendoKnown'. -/
def crescendoKnownCard : Claim7 := { stood := { row := crescendoKnownRow, standIns := [], harness := (true, "d8c7de29b1ba3146abccc39abf5caa918e266e3ec4ef5255c15b1ac914bc45a7"), looks := false }, kinds := [], alts := [], laidByText := true, laidKinds := [.data, .data, .data], laidTests := true, laidLooks := .later }
def CrescendoKnownCardSaid : Prop := Claim7.holds Tryz.pinned (.plain (OpenSpec.ofChange crescendoKnownSpec)) crescendoKnownCard

/-- THE TIED CARD OF 'quintadenalaw22.CrescendoSequence'. -/
def crescendoSequenceCard : Claim7 := { stood := { row := crescendoSequenceRow, standIns := [], harness := (true, "d8c7de29b1ba3146abccc39abf5caa918e266e3ec4ef5255c15b1ac914bc45a7"), looks := false }, kinds := [], alts := [], laidByText := true, laidKinds := [.data, .data, .data], laidTests := true, laidLooks := .later }
def CrescendoSequenceCardSaid : Prop := Claim7.holds Tryz.pinned (.plain (OpenSpec.ofChange crescendoSequenceSpec)) crescendoSequenceCard

/-- THE TIED CARD OF 'quintadenalaw22.CrescendoUndo'. -/
def crescendoUndoCard : Claim7 := { stood := { row := crescendoUndoRow, standIns := [], harness := (true, "d8c7de29b1ba3146abccc39abf5caa918e266e3ec4ef5255c15b1ac914bc45a7"), looks := false }, kinds := [], alts := [], laidByText := true, laidKinds := [.data, .data, .data], laidTests := true, laidLooks := .later }
def CrescendoUndoCardSaid : Prop := Claim7.holds Tryz.pinned (.plain (OpenSpec.ofChange crescendoUndoSpec)) crescendoUndoCard

/-- THE TIED CARD OF 'quintadenalaw22.CrescendoPrints'. -/
def crescendoPrintsCard : Claim7 := { stood := { row := crescendoPrintsRow, standIns := [], harness := (true, "d8c7de29b1ba3146abccc39abf5caa918e266e3ec4ef5255c15b1ac914bc45a7"), looks := false }, kinds := [], alts := [], laidByText := true, laidKinds := [.data, .data, .data, .data, .pinned], laidTests := true, laidLooks := .later }
def CrescendoPrintsCardSaid : Prop := Claim7.holds Tryz.pinned (.plain (OpenSpec.ofChange crescendoPrintsSpec)) crescendoPrintsCard

/-- THE TIED CARD OF 'quintadenalaw22.CrescendoParses'. -/
def crescendoParsesCard : Claim7 := { stood := { row := crescendoParsesRow, standIns := [], harness := (true, "d8c7de29b1ba3146abccc39abf5caa918e266e3ec4ef5255c15b1ac914bc45a7"), looks := false }, kinds := [], alts := [], laidByText := true, laidKinds := [.data, .data, .data, .data, .pinned], laidTests := true, laidLooks := .later }
def CrescendoParsesCardSaid : Prop := Claim7.holds Tryz.pinned (.plain (OpenSpec.ofChange crescendoParsesSpec)) crescendoParsesCard

/-- THE SECOND FORM's CARD OF 'quintadenalaw22.CrescendoAt'. -/
def crescendoAtUptoCard : Claim7 := { stood := { row := crescendoAtUptoRow, standIns := [], harness := (true, "d8c7de29b1ba3146abccc39abf5caa918e266e3ec4ef5255c15b1ac914bc45a7"), looks := false }, kinds := [], alts := [], laidByText := true, laidKinds := [.data, .data, .data], laidTests := true, laidLooks := .later }
def CrescendoAtUptoCardSaid : Prop := Claim7.holds Tryz.pinned (.plain (OpenSpec.upto crescendoAtSpec)) crescendoAtUptoCard

/-- THE SECOND FORM's CARD OF 'quintadenalaw22.CrescendoGrows'. -/
def crescendoGrowsUptoCard : Claim7 := { stood := { row := crescendoGrowsUptoRow, standIns := [], harness := (true, "d8c7de29b1ba3146abccc39abf5caa918e266e3ec4ef5255c15b1ac914bc45a7"), looks := false }, kinds := [], alts := [], laidByText := true, laidKinds := [.data, .data, .data], laidTests := true, laidLooks := .later }
def CrescendoGrowsUptoCardSaid : Prop := Claim7.holds Tryz.pinned (.plain (OpenSpec.upto crescendoGrowsSpec)) crescendoGrowsUptoCard

/-- THE SECOND FORM's CARD OF 'quintadenalaw22.CrescendoFull'. -/
def crescendoFullUptoCard : Claim7 := { stood := { row := crescendoFullUptoRow, standIns := [], harness := (true, "d8c7de29b1ba3146abccc39abf5caa918e266e3ec4ef5255c15b1ac914bc45a7"), looks := false }, kinds := [], alts := [], laidByText := true, laidKinds := [.data, .data, .data], laidTests := true, laidLooks := .later }
def CrescendoFullUptoCardSaid : Prop := Claim7.holds Tryz.pinned (.plain (OpenSpec.upto crescendoFullSpec)) crescendoFullUptoCard

/-- THE SECOND FORM's CARD OF 'quintadenalaw22.CrescendoKnown'. -/
def crescendoKnownUptoCard : Claim7 := { stood := { row := crescendoKnownUptoRow, standIns := [], harness := (true, "d8c7de29b1ba3146abccc39abf5caa918e266e3ec4ef5255c15b1ac914bc45a7"), looks := false }, kinds := [], alts := [], laidByText := true, laidKinds := [.data, .data, .data], laidTests := true, laidLooks := .later }
def CrescendoKnownUptoCardSaid : Prop := Claim7.holds Tryz.pinned (.plain (OpenSpec.upto crescendoKnownSpec)) crescendoKnownUptoCard

/-- THE SECOND FORM's CARD OF 'quintadenalaw22.CrescendoSequence'. -/
def crescendoSequenceUptoCard : Claim7 := { stood := { row := crescendoSequenceUptoRow, standIns := [], harness := (true, "d8c7de29b1ba3146abccc39abf5caa918e266e3ec4ef5255c15b1ac914bc45a7"), looks := false }, kinds := [], alts := [], laidByText := true, laidKinds := [.data, .data, .data], laidTests := true, laidLooks := .later }
def CrescendoSequenceUptoCardSaid : Prop := Claim7.holds Tryz.pinned (.plain (OpenSpec.upto crescendoSequenceSpec)) crescendoSequenceUptoCard

/-- THE SECOND FORM's CARD OF 'quintadenalaw22.CrescendoUndo'. -/
def crescendoUndoUptoCard : Claim7 := { stood := { row := crescendoUndoUptoRow, standIns := [], harness := (true, "d8c7de29b1ba3146abccc39abf5caa918e266e3ec4ef5255c15b1ac914bc45a7"), looks := false }, kinds := [], alts := [], laidByText := true, laidKinds := [.data, .data, .data], laidTests := true, laidLooks := .later }
def CrescendoUndoUptoCardSaid : Prop := Claim7.holds Tryz.pinned (.plain (OpenSpec.upto crescendoUndoSpec)) crescendoUndoUptoCard

/-- THE SECOND FORM's CARD OF 'quintadenalaw22.CrescendoPrints'. -/
def crescendoPrintsUptoCard : Claim7 := { stood := { row := crescendoPrintsUptoRow, standIns := [], harness := (true, "d8c7de29b1ba3146abccc39abf5caa918e266e3ec4ef5255c15b1ac914bc45a7"), looks := false }, kinds := [], alts := [], laidByText := true, laidKinds := [.data, .data, .data, .data, .pinned], laidTests := true, laidLooks := .later }
def CrescendoPrintsUptoCardSaid : Prop := Claim7.holds Tryz.pinned (.plain (OpenSpec.upto crescendoPrintsSpec)) crescendoPrintsUptoCard

/-- THE SECOND FORM's CARD OF 'quintadenalaw22.CrescendoParses'. -/
def crescendoParsesUptoCard : Claim7 := { stood := { row := crescendoParsesUptoRow, standIns := [], harness := (true, "d8c7de29b1ba3146abccc39abf5caa918e266e3ec4ef5255c15b1ac914bc45a7"), looks := false }, kinds := [], alts := [], laidByText := true, laidKinds := [.data, .data, .data, .data, .pinned], laidTests := true, laidLooks := .later }
def CrescendoParsesUptoCardSaid : Prop := Claim7.holds Tryz.pinned (.plain (OpenSpec.upto crescendoParsesSpec)) crescendoParsesUptoCard
end Rows
end Go.Proofs.YtbaojmfkjpnfhaaGreatDoor
