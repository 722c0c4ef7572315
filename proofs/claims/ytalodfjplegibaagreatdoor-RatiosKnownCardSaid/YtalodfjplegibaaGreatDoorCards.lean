/-
  DERIVED. GIVEN WITH THE SEED: THE CARDS: each row of YtalodfjplegibaaGreatDoorRows.lean that lists a variable, with what it lists TIED to the program's text (the seventh form; the later family's looks); each row that meets fmt, with fmt's text TOLD by the authors' own Lean function (tested against real Go, not proved from fmt's source: count such statements apart). THE CARD IS WHAT COUNTS. Prove the row's statement (the work); the ties are given (YtalodfjplegibaaGreatDoorTie.lean); close each card by the builder's one call (the guide's Derived/Test/ToyasCard.lean, 'card_holds'). Laid BY PROGRAM, IN A SANDBOX (cutbox-door.mjs). By AI agents, Wed Nov 11 2026. No macro, syntax, notation, axiom, sorry.
-/
import Derived.Test.YtalodfjplegibaaGreatDoorRows
import GoSem.ClaimSeven
namespace Go.Proofs.YtalodfjplegibaaGreatDoor
namespace Rows

/-- THE TIED CARD OF 'quintadenalaw04.RatiosTexts'. -/
def ratiosTextsCard : Claim7 := { stood := { row := ratiosTextsRow, standIns := [], harness := (true, "b2f251b8c107c01c9922ec34c5e599ac7dcb4a7c6cbbfe101b429097187d2c2d"), looks := true }, kinds := [], alts := [], laidByText := true, laidKinds := [.data, .data, .data, .data, .sentinel, .sentinel, .data, .pinned], laidTests := true, laidLooks := .later }
def RatiosTextsCardSaid : Prop := Claim7.holds Tryz.pinned (.plain (OpenSpec.ofChange ratiosTextsSpec)) ratiosTextsCard

/-- THE TIED CARD OF 'quintadenalaw04.RatiosKnown'. -/
def ratiosKnownCard : Claim7 := { stood := { row := ratiosKnownRow, standIns := [], harness := (true, "b2f251b8c107c01c9922ec34c5e599ac7dcb4a7c6cbbfe101b429097187d2c2d"), looks := true }, kinds := [], alts := [], laidByText := true, laidKinds := [.data, .data, .data, .data, .sentinel, .sentinel, .data, .pinned], laidTests := true, laidLooks := .later }
def RatiosKnownCardSaid : Prop := Claim7.holds Tryz.pinned (.plain (OpenSpec.ofChange ratiosKnownSpec)) ratiosKnownCard

/-- THE SECOND FORM's CARD OF 'quintadenalaw04.RatiosTexts'. -/
def ratiosTextsUptoCard : Claim7 := { stood := { row := ratiosTextsUptoRow, standIns := [], harness := (true, "b2f251b8c107c01c9922ec34c5e599ac7dcb4a7c6cbbfe101b429097187d2c2d"), looks := true }, kinds := [], alts := [], laidByText := true, laidKinds := [.data, .data, .data, .data, .sentinel, .sentinel, .data, .pinned], laidTests := true, laidLooks := .later }
def RatiosTextsUptoCardSaid : Prop := Claim7.holds Tryz.pinned (.plain (OpenSpec.upto ratiosTextsSpec)) ratiosTextsUptoCard

/-- THE SECOND FORM's CARD OF 'quintadenalaw04.RatiosKnown'. -/
def ratiosKnownUptoCard : Claim7 := { stood := { row := ratiosKnownUptoRow, standIns := [], harness := (true, "b2f251b8c107c01c9922ec34c5e599ac7dcb4a7c6cbbfe101b429097187d2c2d"), looks := true }, kinds := [], alts := [], laidByText := true, laidKinds := [.data, .data, .data, .data, .sentinel, .sentinel, .data, .pinned], laidTests := true, laidLooks := .later }
def RatiosKnownUptoCardSaid : Prop := Claim7.holds Tryz.pinned (.plain (OpenSpec.upto ratiosKnownSpec)) ratiosKnownUptoCard
end Rows
end Go.Proofs.YtalodfjplegibaaGreatDoor
