/-
  DERIVED. GIVEN WITH THE SEED: THE CARDS: each row of YtgmpipimancnhaaGreatDoorRows.lean that lists a variable, with what it lists TIED to the program's text (the seventh form; the later family's looks); each row that meets fmt, with fmt's text TOLD by the authors' own Lean function (tested against real Go, not proved from fmt's source: count such statements apart). THE CARD IS WHAT COUNTS. Prove the row's statement (the work); the ties are given (YtgmpipimancnhaaGreatDoorTie.lean); close each card by the builder's one call (the guide's Derived/Test/ToyasCard.lean, 'card_holds'). Laid BY PROGRAM, IN A SANDBOX (cutbox-door.mjs). By AI agents, Wed Nov 11 2026. No macro, syntax, notation, axiom, sorry.
-/
import Derived.Test.YtgmpipimancnhaaGreatDoorRows
import GoSem.ClaimSeven
namespace Go.Proofs.YtgmpipimancnhaaGreatDoor
namespace Rows

/-- THE TIED CARD OF 'quintadenalaw05.TemperTexts'. -/
def temperTextsCard : Claim7 := { stood := { row := temperTextsRow, standIns := [], harness := (true, "ade64b6ca82f43a2d90ca267b6f7f1d610caf6f1018f3524fe19bc9d3ebf1a3d"), looks := true }, kinds := [], alts := [], laidByText := true, laidKinds := [.data, .data, .data, .data, .sentinel, .sentinel, .data, .pinned], laidTests := true, laidLooks := .later }
def TemperTextsCardSaid : Prop := Claim7.holds Tryz.pinned (.plain (OpenSpec.ofChange temperTextsSpec)) temperTextsCard

/-- THE SECOND FORM's CARD OF 'quintadenalaw05.TemperTexts'. -/
def temperTextsUptoCard : Claim7 := { stood := { row := temperTextsUptoRow, standIns := [], harness := (true, "ade64b6ca82f43a2d90ca267b6f7f1d610caf6f1018f3524fe19bc9d3ebf1a3d"), looks := true }, kinds := [], alts := [], laidByText := true, laidKinds := [.data, .data, .data, .data, .sentinel, .sentinel, .data, .pinned], laidTests := true, laidLooks := .later }
def TemperTextsUptoCardSaid : Prop := Claim7.holds Tryz.pinned (.plain (OpenSpec.upto temperTextsSpec)) temperTextsUptoCard
end Rows
end Go.Proofs.YtgmpipimancnhaaGreatDoor
