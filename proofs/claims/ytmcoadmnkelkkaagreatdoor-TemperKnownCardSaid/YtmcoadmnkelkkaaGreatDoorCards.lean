/-
  DERIVED. GIVEN WITH THE SEED: THE CARDS: each row of YtmcoadmnkelkkaaGreatDoorRows.lean that lists a variable, with what it lists TIED to the program's text (the seventh form; the later family's looks); each row that meets fmt, with fmt's text TOLD by the authors' own Lean function (tested against real Go, not proved from fmt's source: count such statements apart). THE CARD IS WHAT COUNTS. Prove the row's statement (the work); the ties are given (YtmcoadmnkelkkaaGreatDoorTie.lean); close each card by the builder's one call (the guide's Derived/Test/ToyasCard.lean, 'card_holds'). Laid BY PROGRAM, IN A SANDBOX (cutbox-door.mjs). By AI agents, Wed Nov 11 2026. No macro, syntax, notation, axiom, sorry.
-/
import Derived.Test.YtmcoadmnkelkkaaGreatDoorRows
import GoSem.ClaimSeven
namespace Go.Proofs.YtmcoadmnkelkkaaGreatDoor
namespace Rows

/-- THE TIED CARD OF 'quintadenalaw05.TemperCloses'. -/
def temperClosesCard : Claim7 := { stood := { row := temperClosesRow, standIns := [], harness := (true, "39bb6fb6ff5a3c999a95df2f0d88670c170e8df66fad6fcdc517a826c155a80b"), looks := true }, kinds := [], alts := [], laidByText := true, laidKinds := [.data], laidTests := true, laidLooks := .later }
def TemperClosesCardSaid : Prop := Claim7.holds Tryz.pinned (.plain (OpenSpec.ofChange temperClosesSpec)) temperClosesCard

/-- THE TIED CARD OF 'quintadenalaw05.TemperNotes'. -/
def temperNotesCard : Claim7 := { stood := { row := temperNotesRow, standIns := [], harness := (true, "39bb6fb6ff5a3c999a95df2f0d88670c170e8df66fad6fcdc517a826c155a80b"), looks := true }, kinds := [], alts := [], laidByText := true, laidKinds := [.data], laidTests := true, laidLooks := .later }
def TemperNotesCardSaid : Prop := Claim7.holds Tryz.pinned (.plain (OpenSpec.ofChange temperNotesSpec)) temperNotesCard

/-- THE TIED CARD OF 'quintadenalaw05.TemperTables'. -/
def temperTablesCard : Claim7 := { stood := { row := temperTablesRow, standIns := [], harness := (true, "39bb6fb6ff5a3c999a95df2f0d88670c170e8df66fad6fcdc517a826c155a80b"), looks := true }, kinds := [], alts := [], laidByText := true, laidKinds := [.data], laidTests := true, laidLooks := .later }
def TemperTablesCardSaid : Prop := Claim7.holds Tryz.pinned (.plain (OpenSpec.ofChange temperTablesSpec)) temperTablesCard

/-- THE TIED CARD OF 'quintadenalaw05.TemperKnown'. -/
def temperKnownCard : Claim7 := { stood := { row := temperKnownRow, standIns := [], harness := (true, "39bb6fb6ff5a3c999a95df2f0d88670c170e8df66fad6fcdc517a826c155a80b"), looks := true }, kinds := [], alts := [], laidByText := true, laidKinds := [.data, .data, .data, .data], laidTests := true, laidLooks := .later }
def TemperKnownCardSaid : Prop := Claim7.holds Tryz.pinned (.plain (OpenSpec.ofChange temperKnownSpec)) temperKnownCard

/-- THE TIED CARD OF 'quintadenalaw05.TemperTexts'. -/
def temperTextsCard : Claim7 := { stood := { row := temperTextsRow, standIns := [], harness := (true, "39bb6fb6ff5a3c999a95df2f0d88670c170e8df66fad6fcdc517a826c155a80b"), looks := true }, kinds := [], alts := [], laidByText := true, laidKinds := [.data, .data, .data, .data, .sentinel, .sentinel, .data, .pinned], laidTests := true, laidLooks := .later }
def TemperTextsCardSaid : Prop := Claim7.holds Tryz.pinned (.plain (OpenSpec.ofChange temperTextsSpec)) temperTextsCard

/-- THE SECOND FORM's CARD OF 'quintadenalaw05.TemperCloses'. -/
def temperClosesUptoCard : Claim7 := { stood := { row := temperClosesUptoRow, standIns := [], harness := (true, "39bb6fb6ff5a3c999a95df2f0d88670c170e8df66fad6fcdc517a826c155a80b"), looks := true }, kinds := [], alts := [], laidByText := true, laidKinds := [.data], laidTests := true, laidLooks := .later }
def TemperClosesUptoCardSaid : Prop := Claim7.holds Tryz.pinned (.plain (OpenSpec.upto temperClosesSpec)) temperClosesUptoCard

/-- THE SECOND FORM's CARD OF 'quintadenalaw05.TemperNotes'. -/
def temperNotesUptoCard : Claim7 := { stood := { row := temperNotesUptoRow, standIns := [], harness := (true, "39bb6fb6ff5a3c999a95df2f0d88670c170e8df66fad6fcdc517a826c155a80b"), looks := true }, kinds := [], alts := [], laidByText := true, laidKinds := [.data], laidTests := true, laidLooks := .later }
def TemperNotesUptoCardSaid : Prop := Claim7.holds Tryz.pinned (.plain (OpenSpec.upto temperNotesSpec)) temperNotesUptoCard

/-- THE SECOND FORM's CARD OF 'quintadenalaw05.TemperTables'. -/
def temperTablesUptoCard : Claim7 := { stood := { row := temperTablesUptoRow, standIns := [], harness := (true, "39bb6fb6ff5a3c999a95df2f0d88670c170e8df66fad6fcdc517a826c155a80b"), looks := true }, kinds := [], alts := [], laidByText := true, laidKinds := [.data], laidTests := true, laidLooks := .later }
def TemperTablesUptoCardSaid : Prop := Claim7.holds Tryz.pinned (.plain (OpenSpec.upto temperTablesSpec)) temperTablesUptoCard

/-- THE SECOND FORM's CARD OF 'quintadenalaw05.TemperKnown'. -/
def temperKnownUptoCard : Claim7 := { stood := { row := temperKnownUptoRow, standIns := [], harness := (true, "39bb6fb6ff5a3c999a95df2f0d88670c170e8df66fad6fcdc517a826c155a80b"), looks := true }, kinds := [], alts := [], laidByText := true, laidKinds := [.data, .data, .data, .data], laidTests := true, laidLooks := .later }
def TemperKnownUptoCardSaid : Prop := Claim7.holds Tryz.pinned (.plain (OpenSpec.upto temperKnownSpec)) temperKnownUptoCard

/-- THE SECOND FORM's CARD OF 'quintadenalaw05.TemperTexts'. -/
def temperTextsUptoCard : Claim7 := { stood := { row := temperTextsUptoRow, standIns := [], harness := (true, "39bb6fb6ff5a3c999a95df2f0d88670c170e8df66fad6fcdc517a826c155a80b"), looks := true }, kinds := [], alts := [], laidByText := true, laidKinds := [.data, .data, .data, .data, .sentinel, .sentinel, .data, .pinned], laidTests := true, laidLooks := .later }
def TemperTextsUptoCardSaid : Prop := Claim7.holds Tryz.pinned (.plain (OpenSpec.upto temperTextsSpec)) temperTextsUptoCard
end Rows
end Go.Proofs.YtmcoadmnkelkkaaGreatDoor
