/-
  DERIVED. GIVEN WITH THE SEED: THE CARDS: each row of YtcmofoggdchofaaDoorRows.lean that lists a variable, with what it lists TIED to the program's text (the seventh form; the later family's looks); each row that meets fmt, with fmt's text TOLD by the authors' own Lean function (tested against real Go, not proved from fmt's source: count such statements apart). THE CARD IS WHAT COUNTS. Prove the row's statement (the work); the ties are given (YtcmofoggdchofaaDoorTie.lean); close each card by the builder's one call (the guide's Derived/Test/ToyasCard.lean, 'card_holds'). Laid BY PROGRAM, IN A SANDBOX (cutbox-door.mjs). By AI agents, Wed Nov 11 2026. No macro, syntax, notation, axiom, sorry.
-/
import Derived.Test.YtcmofoggdchofaaDoorRows
import GoSem.ClaimSeven
namespace Go.Proofs.YtcmofoggdchofaaDoor
namespace Rows

/-- THE TIED CARD OF 'quintadenalaw04.RatiosOf'. -/
def ratiosOfCard : Claim7 := { stood := { row := ratiosOfRow, standIns := [], harness := (true, "e46903835089c1b3f1c700fae017e3f2bc6b6da158197c7e7cff02ff01f339bb"), looks := false }, kinds := [], alts := [], laidByText := true, laidKinds := [.data], laidTests := true, laidLooks := .later }
def RatiosOfCardSaid : Prop := Claim7.holds Tryd.pinned (.plain (OpenSpec.ofChange ratiosOfSpec)) ratiosOfCard

/-- THE TIED CARD OF 'quintadenalaw04.RatiosOrders'. -/
def ratiosOrdersCard : Claim7 := { stood := { row := ratiosOrdersRow, standIns := [], harness := (true, "e46903835089c1b3f1c700fae017e3f2bc6b6da158197c7e7cff02ff01f339bb"), looks := false }, kinds := [], alts := [], laidByText := true, laidKinds := [.data], laidTests := true, laidLooks := .later }
def RatiosOrdersCardSaid : Prop := Claim7.holds Tryd.pinned (.plain (OpenSpec.ofChange ratiosOrdersSpec)) ratiosOrdersCard

/-- THE TIED CARD OF 'quintadenalaw04.RatiosMuls'. -/
def ratiosMulsCard : Claim7 := { stood := { row := ratiosMulsRow, standIns := [], harness := (true, "e46903835089c1b3f1c700fae017e3f2bc6b6da158197c7e7cff02ff01f339bb"), looks := false }, kinds := [], alts := [], laidByText := true, laidKinds := [.data], laidTests := true, laidLooks := .later }
def RatiosMulsCardSaid : Prop := Claim7.holds Tryd.pinned (.plain (OpenSpec.ofChange ratiosMulsSpec)) ratiosMulsCard

/-- THE TIED CARD OF 'quintadenalaw04.RatiosCents'. -/
def ratiosCentsCard : Claim7 := { stood := { row := ratiosCentsRow, standIns := [], harness := (true, "e46903835089c1b3f1c700fae017e3f2bc6b6da158197c7e7cff02ff01f339bb"), looks := false }, kinds := [], alts := [], laidByText := true, laidKinds := [.data], laidTests := true, laidLooks := .later }
def RatiosCentsCardSaid : Prop := Claim7.holds Tryd.pinned (.plain (OpenSpec.ofChange ratiosCentsSpec)) ratiosCentsCard

/-- THE SECOND FORM's CARD OF 'quintadenalaw04.RatiosOf'. -/
def ratiosOfUptoCard : Claim7 := { stood := { row := ratiosOfUptoRow, standIns := [], harness := (true, "e46903835089c1b3f1c700fae017e3f2bc6b6da158197c7e7cff02ff01f339bb"), looks := false }, kinds := [], alts := [], laidByText := true, laidKinds := [.data], laidTests := true, laidLooks := .later }
def RatiosOfUptoCardSaid : Prop := Claim7.holds Tryd.pinned (.plain (OpenSpec.upto ratiosOfSpec)) ratiosOfUptoCard

/-- THE SECOND FORM's CARD OF 'quintadenalaw04.RatiosOrders'. -/
def ratiosOrdersUptoCard : Claim7 := { stood := { row := ratiosOrdersUptoRow, standIns := [], harness := (true, "e46903835089c1b3f1c700fae017e3f2bc6b6da158197c7e7cff02ff01f339bb"), looks := false }, kinds := [], alts := [], laidByText := true, laidKinds := [.data], laidTests := true, laidLooks := .later }
def RatiosOrdersUptoCardSaid : Prop := Claim7.holds Tryd.pinned (.plain (OpenSpec.upto ratiosOrdersSpec)) ratiosOrdersUptoCard

/-- THE SECOND FORM's CARD OF 'quintadenalaw04.RatiosMuls'. -/
def ratiosMulsUptoCard : Claim7 := { stood := { row := ratiosMulsUptoRow, standIns := [], harness := (true, "e46903835089c1b3f1c700fae017e3f2bc6b6da158197c7e7cff02ff01f339bb"), looks := false }, kinds := [], alts := [], laidByText := true, laidKinds := [.data], laidTests := true, laidLooks := .later }
def RatiosMulsUptoCardSaid : Prop := Claim7.holds Tryd.pinned (.plain (OpenSpec.upto ratiosMulsSpec)) ratiosMulsUptoCard

/-- THE SECOND FORM's CARD OF 'quintadenalaw04.RatiosCents'. -/
def ratiosCentsUptoCard : Claim7 := { stood := { row := ratiosCentsUptoRow, standIns := [], harness := (true, "e46903835089c1b3f1c700fae017e3f2bc6b6da158197c7e7cff02ff01f339bb"), looks := false }, kinds := [], alts := [], laidByText := true, laidKinds := [.data], laidTests := true, laidLooks := .later }
def RatiosCentsUptoCardSaid : Prop := Claim7.holds Tryd.pinned (.plain (OpenSpec.upto ratiosCentsSpec)) ratiosCentsUptoCard
end Rows
end Go.Proofs.YtcmofoggdchofaaDoor
