/-
  DERIVED. GIVEN WITH THE SEED: THE CARDS: each row of YtbaojmfkjpnfhaaDoorRows.lean that lists a variable, with what it lists TIED to the program's text (the seventh form; the later family's looks); each row that meets fmt, with fmt's text TOLD by the authors' own Lean function (tested against real Go, not proved from fmt's source: count such statements apart). THE CARD IS WHAT COUNTS. Prove the row's statement (the work); the ties are given (YtbaojmfkjpnfhaaDoorTie.lean); close each card by the builder's one call (the guide's Derived/Test/ToyasCard.lean, 'card_holds'). Laid BY PROGRAM, IN A SANDBOX (cutbox-door.mjs). By AI agents, Wed Nov 11 2026. No macro, syntax, notation, axiom, sorry.
-/
import Derived.Test.YtbaojmfkjpnfhaaDoorRows
import GoSem.ClaimSeven
namespace Go.Proofs.YtbaojmfkjpnfhaaDoor
namespace Rows

/-- THE TIED CARD OF 'quintadenalaw22.CrescendoPlan'. -/
def crescendoPlanCard : Claim7 := { stood := { row := crescendoPlanRow, standIns := [], harness := (true, "3ec9c5557bb3bfe1fa5d12460cef639de956a527322cb89929afeb4ed0359a1f"), looks := false }, kinds := [], alts := [], laidByText := true, laidKinds := [.data, .data, .data], laidTests := true, laidLooks := .later }
def CrescendoPlanCardSaid : Prop := Claim7.holds Tryd.pinned (.plain (OpenSpec.ofChange crescendoPlanSpec)) crescendoPlanCard

/-- THE SECOND FORM's CARD OF 'quintadenalaw22.CrescendoPlan'. -/
def crescendoPlanUptoCard : Claim7 := { stood := { row := crescendoPlanUptoRow, standIns := [], harness := (true, "3ec9c5557bb3bfe1fa5d12460cef639de956a527322cb89929afeb4ed0359a1f"), looks := false }, kinds := [], alts := [], laidByText := true, laidKinds := [.data, .data, .data], laidTests := true, laidLooks := .later }
def CrescendoPlanUptoCardSaid : Prop := Claim7.holds Tryd.pinned (.plain (OpenSpec.upto crescendoPlanSpec)) crescendoPlanUptoCard
end Rows
end Go.Proofs.YtbaojmfkjpnfhaaDoor
