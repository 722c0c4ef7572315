/-
  DERIVED. GIVEN WITH THE SEED: THE CARDS: each row of YtgjbaamhpapeeaaDoorRows.lean that lists a variable, with what it lists TIED to the program's text (the seventh form; the later family's looks); each row that meets fmt, with fmt's text TOLD by the authors' own Lean function (tested against real Go, not proved from fmt's source: count such statements apart). THE CARD IS WHAT COUNTS. Prove the row's statement (the work); the ties are given (YtgjbaamhpapeeaaDoorTie.lean); close each card by the builder's one call (the guide's Derived/Test/ToyasCard.lean, 'card_holds'). Laid BY PROGRAM, IN A SANDBOX (cutbox-door.mjs). By AI agents, Wed Nov 11 2026. No macro, syntax, notation, axiom, sorry.
-/
import Derived.Test.YtgjbaamhpapeeaaDoorRows
import GoSem.ClaimSeven
namespace Go.Proofs.YtgjbaamhpapeeaaDoor
namespace Rows

/-- THE TIED CARD OF 'quintadenalaw02.WideDivides'. -/
def wideDividesCard : Claim7 := { stood := { row := wideDividesRow, standIns := [], harness := (true, "88172ec59d463a0783bb6bd10b6ef9a7e7442942b5389290c590edd134382e2a"), looks := false }, kinds := [], alts := [], laidByText := true, laidKinds := [.data, .data, .data], laidTests := true, laidLooks := .later }
def WideDividesCardSaid : Prop := Claim7.holds Tryd.pinned (.plain (OpenSpec.ofChange wideDividesSpec)) wideDividesCard

/-- THE TIED CARD OF 'quintadenalaw02.WideShares'. -/
def wideSharesCard : Claim7 := { stood := { row := wideSharesRow, standIns := [], harness := (true, "88172ec59d463a0783bb6bd10b6ef9a7e7442942b5389290c590edd134382e2a"), looks := false }, kinds := [], alts := [], laidByText := true, laidKinds := [.data, .data, .data], laidTests := true, laidLooks := .later }
def WideSharesCardSaid : Prop := Claim7.holds Tryd.pinned (.plain (OpenSpec.ofChange wideSharesSpec)) wideSharesCard

/-- THE TIED CARD OF 'quintadenalaw02.WideNumbers'. -/
def wideNumbersCard : Claim7 := { stood := { row := wideNumbersRow, standIns := [], harness := (true, "88172ec59d463a0783bb6bd10b6ef9a7e7442942b5389290c590edd134382e2a"), looks := false }, kinds := [], alts := [], laidByText := true, laidKinds := [.data, .data, .data], laidTests := true, laidLooks := .later }
def WideNumbersCardSaid : Prop := Claim7.holds Tryd.pinned (.plain (OpenSpec.ofChange wideNumbersSpec)) wideNumbersCard

/-- THE TIED CARD OF 'quintadenalaw02.WidePowers'. -/
def widePowersCard : Claim7 := { stood := { row := widePowersRow, standIns := [], harness := (true, "88172ec59d463a0783bb6bd10b6ef9a7e7442942b5389290c590edd134382e2a"), looks := false }, kinds := [], alts := [], laidByText := true, laidKinds := [.data, .data, .data], laidTests := true, laidLooks := .later }
def WidePowersCardSaid : Prop := Claim7.holds Tryd.pinned (.plain (OpenSpec.ofChange widePowersSpec)) widePowersCard

/-- THE TIED CARD OF 'quintadenalaw02.WideAdds'. -/
def wideAddsCard : Claim7 := { stood := { row := wideAddsRow, standIns := [], harness := (true, "88172ec59d463a0783bb6bd10b6ef9a7e7442942b5389290c590edd134382e2a"), looks := false }, kinds := [], alts := [], laidByText := true, laidKinds := [.data, .data, .data], laidTests := true, laidLooks := .later }
def WideAddsCardSaid : Prop := Claim7.holds Tryd.pinned (.plain (OpenSpec.ofChange wideAddsSpec)) wideAddsCard

/-- THE TIED CARD OF 'quintadenalaw02.WideOrders'. -/
def wideOrdersCard : Claim7 := { stood := { row := wideOrdersRow, standIns := [], harness := (true, "88172ec59d463a0783bb6bd10b6ef9a7e7442942b5389290c590edd134382e2a"), looks := false }, kinds := [], alts := [], laidByText := true, laidKinds := [.data, .data, .data], laidTests := true, laidLooks := .later }
def WideOrdersCardSaid : Prop := Claim7.holds Tryd.pinned (.plain (OpenSpec.ofChange wideOrdersSpec)) wideOrdersCard

/-- THE TIED CARD OF 'quintadenalaw02.WideRing'. -/
def wideRingCard : Claim7 := { stood := { row := wideRingRow, standIns := [], harness := (true, "88172ec59d463a0783bb6bd10b6ef9a7e7442942b5389290c590edd134382e2a"), looks := false }, kinds := [], alts := [], laidByText := true, laidKinds := [.data, .data, .data], laidTests := true, laidLooks := .later }
def WideRingCardSaid : Prop := Claim7.holds Tryd.pinned (.plain (OpenSpec.ofChange wideRingSpec)) wideRingCard

/-- THE TIED CARD OF 'quintadenalaw02.WideRoots'. -/
def wideRootsCard : Claim7 := { stood := { row := wideRootsRow, standIns := [], harness := (true, "88172ec59d463a0783bb6bd10b6ef9a7e7442942b5389290c590edd134382e2a"), looks := false }, kinds := [], alts := [], laidByText := true, laidKinds := [.data, .data, .data], laidTests := true, laidLooks := .later }
def WideRootsCardSaid : Prop := Claim7.holds Tryd.pinned (.plain (OpenSpec.ofChange wideRootsSpec)) wideRootsCard

/-- THE TIED CARD OF 'quintadenalaw02.WideField'. -/
def wideFieldCard : Claim7 := { stood := { row := wideFieldRow, standIns := [], harness := (true, "88172ec59d463a0783bb6bd10b6ef9a7e7442942b5389290c590edd134382e2a"), looks := false }, kinds := [], alts := [], laidByText := true, laidKinds := [.data, .data, .data], laidTests := true, laidLooks := .later }
def WideFieldCardSaid : Prop := Claim7.holds Tryd.pinned (.plain (OpenSpec.ofChange wideFieldSpec)) wideFieldCard

/-- THE SECOND FORM's CARD OF 'quintadenalaw02.WideDivides'. -/
def wideDividesUptoCard : Claim7 := { stood := { row := wideDividesUptoRow, standIns := [], harness := (true, "88172ec59d463a0783bb6bd10b6ef9a7e7442942b5389290c590edd134382e2a"), looks := false }, kinds := [], alts := [], laidByText := true, laidKinds := [.data, .data, .data], laidTests := true, laidLooks := .later }
def WideDividesUptoCardSaid : Prop := Claim7.holds Tryd.pinned (.plain (OpenSpec.upto wideDividesSpec)) wideDividesUptoCard

/-- THE SECOND FORM's CARD OF 'quintadenalaw02.WideShares'. -/
def wideSharesUptoCard : Claim7 := { stood := { row := wideSharesUptoRow, standIns := [], harness := (true, "88172ec59d463a0783bb6bd10b6ef9a7e7442942b5389290c590edd134382e2a"), looks := false }, kinds := [], alts := [], laidByText := true, laidKinds := [.data, .data, .data], laidTests := true, laidLooks := .later }
def WideSharesUptoCardSaid : Prop := Claim7.holds Tryd.pinned (.plain (OpenSpec.upto wideSharesSpec)) wideSharesUptoCard

/-- THE SECOND FORM's CARD OF 'quintadenalaw02.WideNumbers'. -/
def wideNumbersUptoCard : Claim7 := { stood := { row := wideNumbersUptoRow, standIns := [], harness := (true, "88172ec59d463a0783bb6bd10b6ef9a7e7442942b5389290c590edd134382e2a"), looks := false }, kinds := [], alts := [], laidByText := true, laidKinds := [.data, .data, .data], laidTests := true, laidLooks := .later }
def WideNumbersUptoCardSaid : Prop := Claim7.holds Tryd.pinned (.plain (OpenSpec.upto wideNumbersSpec)) wideNumbersUptoCard

/-- THE SECOND FORM's CARD OF 'quintadenalaw02.WidePowers'. -/
def widePowersUptoCard : Claim7 := { stood := { row := widePowersUptoRow, standIns := [], harness := (true, "88172ec59d463a0783bb6bd10b6ef9a7e7442942b5389290c590edd134382e2a"), looks := false }, kinds := [], alts := [], laidByText := true, laidKinds := [.data, .data, .data], laidTests := true, laidLooks := .later }
def WidePowersUptoCardSaid : Prop := Claim7.holds Tryd.pinned (.plain (OpenSpec.upto widePowersSpec)) widePowersUptoCard

/-- THE SECOND FORM's CARD OF 'quintadenalaw02.WideAdds'. -/
def wideAddsUptoCard : Claim7 := { stood := { row := wideAddsUptoRow, standIns := [], harness := (true, "88172ec59d463a0783bb6bd10b6ef9a7e7442942b5389290c590edd134382e2a"), looks := false }, kinds := [], alts := [], laidByText := true, laidKinds := [.data, .data, .data], laidTests := true, laidLooks := .later }
def WideAddsUptoCardSaid : Prop := Claim7.holds Tryd.pinned (.plain (OpenSpec.upto wideAddsSpec)) wideAddsUptoCard

/-- THE SECOND FORM's CARD OF 'quintadenalaw02.WideOrders'. -/
def wideOrdersUptoCard : Claim7 := { stood := { row := wideOrdersUptoRow, standIns := [], harness := (true, "88172ec59d463a0783bb6bd10b6ef9a7e7442942b5389290c590edd134382e2a"), looks := false }, kinds := [], alts := [], laidByText := true, laidKinds := [.data, .data, .data], laidTests := true, laidLooks := .later }
def WideOrdersUptoCardSaid : Prop := Claim7.holds Tryd.pinned (.plain (OpenSpec.upto wideOrdersSpec)) wideOrdersUptoCard

/-- THE SECOND FORM's CARD OF 'quintadenalaw02.WideRing'. -/
def wideRingUptoCard : Claim7 := { stood := { row := wideRingUptoRow, standIns := [], harness := (true, "88172ec59d463a0783bb6bd10b6ef9a7e7442942b5389290c590edd134382e2a"), looks := false }, kinds := [], alts := [], laidByText := true, laidKinds := [.data, .data, .data], laidTests := true, laidLooks := .later }
def WideRingUptoCardSaid : Prop := Claim7.holds Tryd.pinned (.plain (OpenSpec.upto wideRingSpec)) wideRingUptoCard

/-- THE SECOND FORM's CARD OF 'quintadenalaw02.WideRoots'. -/
def wideRootsUptoCard : Claim7 := { stood := { row := wideRootsUptoRow, standIns := [], harness := (true, "88172ec59d463a0783bb6bd10b6ef9a7e7442942b5389290c590edd134382e2a"), looks := false }, kinds := [], alts := [], laidByText := true, laidKinds := [.data, .data, .data], laidTests := true, laidLooks := .later }
def WideRootsUptoCardSaid : Prop := Claim7.holds Tryd.pinned (.plain (OpenSpec.upto wideRootsSpec)) wideRootsUptoCard

/-- THE SECOND FORM's CARD OF 'quintadenalaw02.WideField'. -/
def wideFieldUptoCard : Claim7 := { stood := { row := wideFieldUptoRow, standIns := [], harness := (true, "88172ec59d463a0783bb6bd10b6ef9a7e7442942b5389290c590edd134382e2a"), looks := false }, kinds := [], alts := [], laidByText := true, laidKinds := [.data, .data, .data], laidTests := true, laidLooks := .later }
def WideFieldUptoCardSaid : Prop := Claim7.holds Tryd.pinned (.plain (OpenSpec.upto wideFieldSpec)) wideFieldUptoCard
end Rows
end Go.Proofs.YtgjbaamhpapeeaaDoor
