/-
  DERIVED. GIVEN WITH THE SEED: THE CARDS: each row of YtgjbaamhpapeeaaGreatDoorRows.lean that lists a variable, with what it lists TIED to the program's text (the seventh form; the later family's looks); each row that meets fmt, with fmt's text TOLD by the authors' own Lean function (tested against real Go, not proved from fmt's source: count such statements apart). THE CARD IS WHAT COUNTS. Prove the row's statement (the work); the ties are given (YtgjbaamhpapeeaaGreatDoorTie.lean); close each card by the builder's one call (the guide's Derived/Test/ToyasCard.lean, 'card_holds'). Laid BY PROGRAM, IN A SANDBOX (cutbox-door.mjs). By AI agents, Wed Nov 11 2026. No macro, syntax, notation, axiom, sorry.
-/
import Derived.Test.YtgjbaamhpapeeaaGreatDoorRows
import GoSem.ClaimSeven
namespace Go.Proofs.YtgjbaamhpapeeaaGreatDoor
namespace Rows

/-- THE TIED CARD OF 'quintadenalaw02.WideQuos'. -/
def wideQuosCard : Claim7 := { stood := { row := wideQuosRow, standIns := [], harness := (true, "87a97ff8dfa43d65febea94ddee5e4f9df75c5e08a83b42fadc04647d8088ffa"), looks := true }, kinds := [], alts := [], laidByText := true, laidKinds := [.data, .data, .data], laidTests := true, laidLooks := .later }
def WideQuosCardSaid : Prop := Claim7.holds Tryz.pinned (.plain (OpenSpec.ofChange wideQuosSpec)) wideQuosCard

/-- THE TIED CARD OF 'quintadenalaw02.WideTexts'. -/
def wideTextsCard : Claim7 := { stood := { row := wideTextsRow, standIns := [], harness := (true, "87a97ff8dfa43d65febea94ddee5e4f9df75c5e08a83b42fadc04647d8088ffa"), looks := true }, kinds := [], alts := [], laidByText := true, laidKinds := [.data, .data, .data, .data, .sentinel, .sentinel, .pinned], laidTests := true, laidLooks := .later }
def WideTextsCardSaid : Prop := Claim7.holds Tryz.pinned (.plain (OpenSpec.ofChange wideTextsSpec)) wideTextsCard

/-- THE TIED CARD OF 'quintadenalaw02.WideCommon'. -/
def wideCommonCard : Claim7 := { stood := { row := wideCommonRow, standIns := [], harness := (true, "87a97ff8dfa43d65febea94ddee5e4f9df75c5e08a83b42fadc04647d8088ffa"), looks := true }, kinds := [], alts := [], laidByText := true, laidKinds := [.data, .data, .data, .data, .sentinel, .sentinel, .pinned], laidTests := true, laidLooks := .later }
def WideCommonCardSaid : Prop := Claim7.holds Tryz.pinned (.plain (OpenSpec.ofChange wideCommonSpec)) wideCommonCard

/-- THE SECOND FORM's CARD OF 'quintadenalaw02.WideQuos'. -/
def wideQuosUptoCard : Claim7 := { stood := { row := wideQuosUptoRow, standIns := [], harness := (true, "87a97ff8dfa43d65febea94ddee5e4f9df75c5e08a83b42fadc04647d8088ffa"), looks := true }, kinds := [], alts := [], laidByText := true, laidKinds := [.data, .data, .data], laidTests := true, laidLooks := .later }
def WideQuosUptoCardSaid : Prop := Claim7.holds Tryz.pinned (.plain (OpenSpec.upto wideQuosSpec)) wideQuosUptoCard

/-- THE SECOND FORM's CARD OF 'quintadenalaw02.WideTexts'. -/
def wideTextsUptoCard : Claim7 := { stood := { row := wideTextsUptoRow, standIns := [], harness := (true, "87a97ff8dfa43d65febea94ddee5e4f9df75c5e08a83b42fadc04647d8088ffa"), looks := true }, kinds := [], alts := [], laidByText := true, laidKinds := [.data, .data, .data, .data, .sentinel, .sentinel, .pinned], laidTests := true, laidLooks := .later }
def WideTextsUptoCardSaid : Prop := Claim7.holds Tryz.pinned (.plain (OpenSpec.upto wideTextsSpec)) wideTextsUptoCard

/-- THE SECOND FORM's CARD OF 'quintadenalaw02.WideCommon'. -/
def wideCommonUptoCard : Claim7 := { stood := { row := wideCommonUptoRow, standIns := [], harness := (true, "87a97ff8dfa43d65febea94ddee5e4f9df75c5e08a83b42fadc04647d8088ffa"), looks := true }, kinds := [], alts := [], laidByText := true, laidKinds := [.data, .data, .data, .data, .sentinel, .sentinel, .pinned], laidTests := true, laidLooks := .later }
def WideCommonUptoCardSaid : Prop := Claim7.holds Tryz.pinned (.plain (OpenSpec.upto wideCommonSpec)) wideCommonUptoCard
end Rows
end Go.Proofs.YtgjbaamhpapeeaaGreatDoor
