/-
  DERIVED. GIVEN WITH THE SEED: THE CARDS: each row of YtmaeihncfmidhaaDoorRows.lean that lists a variable, with what it lists TIED to the program's text (the seventh form; the later family's looks); each row that meets fmt, with fmt's text TOLD by the authors' own Lean function (tested against real Go, not proved from fmt's source: count such statements apart). THE CARD IS WHAT COUNTS. Prove the row's statement (the work); the ties are given (YtmaeihncfmidhaaDoorTie.lean); close each card by the builder's one call (the guide's Derived/Test/ToyasCard.lean, 'card_holds'). Laid BY PROGRAM, IN A SANDBOX (cutbox-door.mjs). By AI agents, Wed Nov 11 2026. No macro, syntax, notation, axiom, sorry.
-/
import Derived.Test.YtmaeihncfmidhaaDoorRows
import GoSem.ClaimSeven
namespace Go.Proofs.YtmaeihncfmidhaaDoor
namespace Rows

/-- THE TIED CARD OF 'quintadenalaw22.CrescendoPlan'. -/
def crescendoPlanCard : Claim7 := { stood := { row := crescendoPlanRow, standIns := [], harness := (true, "ce1cc59a239fed3cd661e16e74ba2a7a246d8edf321e81a53a676d6b2e067c18"), looks := false }, kinds := [], alts := [], laidByText := true, laidKinds := [.data, .data, .data], laidTests := true, laidLooks := .later }
def CrescendoPlanCardSaid : Prop := Claim7.holds Tryd.pinned (.plain (OpenSpec.ofChange crescendoPlanSpec)) crescendoPlanCard

/-- THE TIED CARD OF 'quintadenalaw22.CrescendoLeast'. -/
def crescendoLeastCard : Claim7 := { stood := { row := crescendoLeastRow, standIns := [], harness := (true, "ce1cc59a239fed3cd661e16e74ba2a7a246d8edf321e81a53a676d6b2e067c18"), looks := false }, kinds := [], alts := [], laidByText := true, laidKinds := [.data, .data, .data], laidTests := true, laidLooks := .later }
def CrescendoLeastCardSaid : Prop := Claim7.holds Tryd.pinned (.plain (OpenSpec.ofChange crescendoLeastSpec)) crescendoLeastCard

/-- THE SECOND FORM's CARD OF 'quintadenalaw22.CrescendoPlan'. -/
def crescendoPlanUptoCard : Claim7 := { stood := { row := crescendoPlanUptoRow, standIns := [], harness := (true, "ce1cc59a239fed3cd661e16e74ba2a7a246d8edf321e81a53a676d6b2e067c18"), looks := false }, kinds := [], alts := [], laidByText := true, laidKinds := [.data, .data, .data], laidTests := true, laidLooks := .later }
def CrescendoPlanUptoCardSaid : Prop := Claim7.holds Tryd.pinned (.plain (OpenSpec.upto crescendoPlanSpec)) crescendoPlanUptoCard

/-- THE SECOND FORM's CARD OF 'quintadenalaw22.CrescendoLeast'. -/
def crescendoLeastUptoCard : Claim7 := { stood := { row := crescendoLeastUptoRow, standIns := [], harness := (true, "ce1cc59a239fed3cd661e16e74ba2a7a246d8edf321e81a53a676d6b2e067c18"), looks := false }, kinds := [], alts := [], laidByText := true, laidKinds := [.data, .data, .data], laidTests := true, laidLooks := .later }
def CrescendoLeastUptoCardSaid : Prop := Claim7.holds Tryd.pinned (.plain (OpenSpec.upto crescendoLeastSpec)) crescendoLeastUptoCard
end Rows
end Go.Proofs.YtmaeihncfmidhaaDoor
