/-
  DERIVED. GIVEN WITH THE SEED: THE CARDS: each row of YtmcoadmnkelkkaaDoorRows.lean that lists a variable, with what it lists TIED to the program's text (the seventh form; the later family's looks); each row that meets fmt, with fmt's text TOLD by the authors' own Lean function (tested against real Go, not proved from fmt's source: count such statements apart). THE CARD IS WHAT COUNTS. Prove the row's statement (the work); the ties are given (YtmcoadmnkelkkaaDoorTie.lean); close each card by the builder's one call (the guide's Derived/Test/ToyasCard.lean, 'card_holds'). Laid BY PROGRAM, IN A SANDBOX (cutbox-door.mjs). By AI agents, Wed Nov 11 2026. No macro, syntax, notation, axiom, sorry.
-/
import Derived.Test.YtmcoadmnkelkkaaDoorRows
import GoSem.ClaimSeven
namespace Go.Proofs.YtmcoadmnkelkkaaDoor
namespace Rows

/-- THE TIED CARD OF 'quintadenalaw05.TemperChecks'. -/
def temperChecksCard : Claim7 := { stood := { row := temperChecksRow, standIns := [], harness := (true, "ae86f481c5bc9277558d6c4a9631e5b48132df19c6450a4d7562e37db6b48928"), looks := false }, kinds := [], alts := [], laidByText := true, laidKinds := [.data], laidTests := true, laidLooks := .later }
def TemperChecksCardSaid : Prop := Claim7.holds Tryd.pinned (.plain (OpenSpec.ofChange temperChecksSpec)) temperChecksCard

/-- THE TIED CARD OF 'quintadenalaw05.TemperAdds'. -/
def temperAddsCard : Claim7 := { stood := { row := temperAddsRow, standIns := [], harness := (true, "ae86f481c5bc9277558d6c4a9631e5b48132df19c6450a4d7562e37db6b48928"), looks := false }, kinds := [], alts := [], laidByText := true, laidKinds := [.data], laidTests := true, laidLooks := .later }
def TemperAddsCardSaid : Prop := Claim7.holds Tryd.pinned (.plain (OpenSpec.ofChange temperAddsSpec)) temperAddsCard

/-- THE TIED CARD OF 'quintadenalaw05.TemperTurns'. -/
def temperTurnsCard : Claim7 := { stood := { row := temperTurnsRow, standIns := [], harness := (true, "ae86f481c5bc9277558d6c4a9631e5b48132df19c6450a4d7562e37db6b48928"), looks := false }, kinds := [], alts := [], laidByText := true, laidKinds := [.data], laidTests := true, laidLooks := .later }
def TemperTurnsCardSaid : Prop := Claim7.holds Tryd.pinned (.plain (OpenSpec.ofChange temperTurnsSpec)) temperTurnsCard

/-- THE TIED CARD OF 'quintadenalaw05.TemperTurned'. -/
def temperTurnedCard : Claim7 := { stood := { row := temperTurnedRow, standIns := [], harness := (true, "ae86f481c5bc9277558d6c4a9631e5b48132df19c6450a4d7562e37db6b48928"), looks := false }, kinds := [], alts := [], laidByText := true, laidKinds := [.data], laidTests := true, laidLooks := .later }
def TemperTurnedCardSaid : Prop := Claim7.holds Tryd.pinned (.plain (OpenSpec.ofChange temperTurnedSpec)) temperTurnedCard

/-- THE SECOND FORM's CARD OF 'quintadenalaw05.TemperChecks'. -/
def temperChecksUptoCard : Claim7 := { stood := { row := temperChecksUptoRow, standIns := [], harness := (true, "ae86f481c5bc9277558d6c4a9631e5b48132df19c6450a4d7562e37db6b48928"), looks := false }, kinds := [], alts := [], laidByText := true, laidKinds := [.data], laidTests := true, laidLooks := .later }
def TemperChecksUptoCardSaid : Prop := Claim7.holds Tryd.pinned (.plain (OpenSpec.upto temperChecksSpec)) temperChecksUptoCard

/-- THE SECOND FORM's CARD OF 'quintadenalaw05.TemperAdds'. -/
def temperAddsUptoCard : Claim7 := { stood := { row := temperAddsUptoRow, standIns := [], harness := (true, "ae86f481c5bc9277558d6c4a9631e5b48132df19c6450a4d7562e37db6b48928"), looks := false }, kinds := [], alts := [], laidByText := true, laidKinds := [.data], laidTests := true, laidLooks := .later }
def TemperAddsUptoCardSaid : Prop := Claim7.holds Tryd.pinned (.plain (OpenSpec.upto temperAddsSpec)) temperAddsUptoCard

/-- THE SECOND FORM's CARD OF 'quintadenalaw05.TemperTurns'. -/
def temperTurnsUptoCard : Claim7 := { stood := { row := temperTurnsUptoRow, standIns := [], harness := (true, "ae86f481c5bc9277558d6c4a9631e5b48132df19c6450a4d7562e37db6b48928"), looks := false }, kinds := [], alts := [], laidByText := true, laidKinds := [.data], laidTests := true, laidLooks := .later }
def TemperTurnsUptoCardSaid : Prop := Claim7.holds Tryd.pinned (.plain (OpenSpec.upto temperTurnsSpec)) temperTurnsUptoCard

/-- THE SECOND FORM's CARD OF 'quintadenalaw05.TemperTurned'. -/
def temperTurnedUptoCard : Claim7 := { stood := { row := temperTurnedUptoRow, standIns := [], harness := (true, "ae86f481c5bc9277558d6c4a9631e5b48132df19c6450a4d7562e37db6b48928"), looks := false }, kinds := [], alts := [], laidByText := true, laidKinds := [.data], laidTests := true, laidLooks := .later }
def TemperTurnedUptoCardSaid : Prop := Claim7.holds Tryd.pinned (.plain (OpenSpec.upto temperTurnedSpec)) temperTurnedUptoCard
end Rows
end Go.Proofs.YtmcoadmnkelkkaaDoor
