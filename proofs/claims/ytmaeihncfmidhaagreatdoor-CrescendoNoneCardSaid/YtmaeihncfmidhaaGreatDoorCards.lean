/-
  DERIVED. GIVEN WITH THE SEED: THE CARDS: each row of YtmaeihncfmidhaaGreatDoorRows.lean that lists a variable, with what it lists TIED to the program's text (the seventh form; the later family's looks); each row that meets fmt, with fmt's text TOLD by the authors' own Lean function (tested against real Go, not proved from fmt's source: count such statements apart). THE CARD IS WHAT COUNTS. Prove the row's statement (the work); the ties are given (YtmaeihncfmidhaaGreatDoorTie.lean); close each card by the builder's one call (the guide's Derived/Test/ToyasCard.lean, 'card_holds'). Laid BY PROGRAM, IN A SANDBOX (cutbox-door.mjs). By AI agents, Wed Nov 11 2026. No macro, syntax, notation, axiom, sorry.
-/
import Derived.Test.YtmaeihncfmidhaaGreatDoorRows
import GoSem.ClaimSeven
namespace Go.Proofs.YtmaeihncfmidhaaGreatDoor
namespace Rows

/-- THE TIED CARD OF 'quintadenalaw22.CrescendoKnown'. -/
def crescendoKnownCard : Claim7 := { stood := { row := crescendoKnownRow, standIns := [], harness := (true, "9b9b1ed699ae6d1a6e5db91d4448cd2176aefc304420fe8612fdbca35858741f"), looks := false }, kinds := [], alts := [], laidByText := true, laidKinds := [.data, .data, .data], laidTests := true, laidLooks := .later }
def CrescendoKnownCardSaid : Prop := Claim7.holds Tryz.pinned (.plain (OpenSpec.ofChange crescendoKnownSpec)) crescendoKnownCard

/-- THE TIED CARD OF 'quintadenalaw22.CrescendoNone'. -/
def crescendoNoneCard : Claim7 := { stood := { row := crescendoNoneRow, standIns := [], harness := (true, "9b9b1ed699ae6d1a6e5db91d4448cd2176aefc304420fe8612fdbca35858741f"), looks := false }, kinds := [], alts := [], laidByText := true, laidKinds := [.data, .data, .data], laidTests := true, laidLooks := .later }
def CrescendoNoneCardSaid : Prop := Claim7.holds Tryz.pinned (.plain (OpenSpec.ofChange crescendoNoneSpec)) crescendoNoneCard

/-- THE SECOND FORM's CARD OF 'quintadenalaw22.CrescendoKnown'. -/
def crescendoKnownUptoCard : Claim7 := { stood := { row := crescendoKnownUptoRow, standIns := [], harness := (true, "9b9b1ed699ae6d1a6e5db91d4448cd2176aefc304420fe8612fdbca35858741f"), looks := false }, kinds := [], alts := [], laidByText := true, laidKinds := [.data, .data, .data], laidTests := true, laidLooks := .later }
def CrescendoKnownUptoCardSaid : Prop := Claim7.holds Tryz.pinned (.plain (OpenSpec.upto crescendoKnownSpec)) crescendoKnownUptoCard

/-- THE SECOND FORM's CARD OF 'quintadenalaw22.CrescendoNone'. -/
def crescendoNoneUptoCard : Claim7 := { stood := { row := crescendoNoneUptoRow, standIns := [], harness := (true, "9b9b1ed699ae6d1a6e5db91d4448cd2176aefc304420fe8612fdbca35858741f"), looks := false }, kinds := [], alts := [], laidByText := true, laidKinds := [.data, .data, .data], laidTests := true, laidLooks := .later }
def CrescendoNoneUptoCardSaid : Prop := Claim7.holds Tryz.pinned (.plain (OpenSpec.upto crescendoNoneSpec)) crescendoNoneUptoCard
end Rows
end Go.Proofs.YtmaeihncfmidhaaGreatDoor
