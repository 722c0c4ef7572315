/-
  DERIVED. GIVEN WITH THE SEED: THE CARDS: each row of YtafadpaljanghaaGreatDoorRows.lean that lists a variable, with what it lists TIED to the program's text (the seventh form; the later family's looks); each row that meets fmt, with fmt's text TOLD by the authors' own Lean function (tested against real Go, not proved from fmt's source: count such statements apart). THE CARD IS WHAT COUNTS. Prove the row's statement (the work); the ties are given (YtafadpaljanghaaGreatDoorTie.lean); close each card by the builder's one call (the guide's Derived/Test/ToyasCard.lean, 'card_holds'). Laid BY PROGRAM, IN A SANDBOX (cutbox-door.mjs). By AI agents, Wed Nov 11 2026. No macro, syntax, notation, axiom, sorry.
-/
import Derived.Test.YtafadpaljanghaaGreatDoorRows
import GoSem.ClaimSeven
namespace Go.Proofs.YtafadpaljanghaaGreatDoor
namespace Rows

/-- THE TIED CARD OF 'quintadenalaw11.MixturesFeet'. -/
def mixturesFeetCard : Claim7 := { stood := { row := mixturesFeetRow, standIns := [], harness := (true, "d2208d26931d68ca4b57edb447e29848763d2bcc8d72da3f5d2206413d0d89b5"), looks := false }, kinds := [], alts := [], laidByText := true, laidKinds := [.data, .data, .data], laidTests := true, laidLooks := .later }
def MixturesFeetCardSaid : Prop := Claim7.holds Tryz.pinned (.plain (OpenSpec.ofChange mixturesFeetSpec)) mixturesFeetCard

/-- THE TIED CARD OF 'quintadenalaw11.MixturesBack'. -/
def mixturesBackCard : Claim7 := { stood := { row := mixturesBackRow, standIns := [], harness := (true, "d2208d26931d68ca4b57edb447e29848763d2bcc8d72da3f5d2206413d0d89b5"), looks := false }, kinds := [], alts := [], laidByText := true, laidKinds := [.data, .data, .data], laidTests := true, laidLooks := .later }
def MixturesBackCardSaid : Prop := Claim7.holds Tryz.pinned (.plain (OpenSpec.ofChange mixturesBackSpec)) mixturesBackCard

/-- THE TIED CARD OF 'quintadenalaw11.MixturesParts'. -/
def mixturesPartsCard : Claim7 := { stood := { row := mixturesPartsRow, standIns := [], harness := (true, "d2208d26931d68ca4b57edb447e29848763d2bcc8d72da3f5d2206413d0d89b5"), looks := false }, kinds := [], alts := [], laidByText := true, laidKinds := [.data, .data, .data], laidTests := true, laidLooks := .later }
def MixturesPartsCardSaid : Prop := Claim7.holds Tryz.pinned (.plain (OpenSpec.ofChange mixturesPartsSpec)) mixturesPartsCard

/-- THE TIED CARD OF 'quintadenalaw11.MixturesSound'. -/
def mixturesSoundCard : Claim7 := { stood := { row := mixturesSoundRow, standIns := [], harness := (true, "d2208d26931d68ca4b57edb447e29848763d2bcc8d72da3f5d2206413d0d89b5"), looks := false }, kinds := [], alts := [], laidByText := true, laidKinds := [.data, .data, .data], laidTests := true, laidLooks := .later }
def MixturesSoundCardSaid : Prop := Claim7.holds Tryz.pinned (.plain (OpenSpec.ofChange mixturesSoundSpec)) mixturesSoundCard

/-- THE TIED CARD OF 'quintadenalaw11.MixturesKnown'. -/
def mixturesKnownCard : Claim7 := { stood := { row := mixturesKnownRow, standIns := [], harness := (true, "d2208d26931d68ca4b57edb447e29848763d2bcc8d72da3f5d2206413d0d89b5"), looks := false }, kinds := [], alts := [], laidByText := true, laidKinds := [.data, .data, .data], laidTests := true, laidLooks := .later }
def MixturesKnownCardSaid : Prop := Claim7.holds Tryz.pinned (.plain (OpenSpec.ofChange mixturesKnownSpec)) mixturesKnownCard

/-- THE SECOND FORM's CARD OF 'quintadenalaw11.MixturesFeet'. -/
def mixturesFeetUptoCard : Claim7 := { stood := { row := mixturesFeetUptoRow, standIns := [], harness := (true, "d2208d26931d68ca4b57edb447e29848763d2bcc8d72da3f5d2206413d0d89b5"), looks := false }, kinds := [], alts := [], laidByText := true, laidKinds := [.data, .data, .data], laidTests := true, laidLooks := .later }
def MixturesFeetUptoCardSaid : Prop := Claim7.holds Tryz.pinned (.plain (OpenSpec.upto mixturesFeetSpec)) mixturesFeetUptoCard

/-- THE SECOND FORM's CARD OF 'quintadenalaw11.MixturesBack'. -/
def mixturesBackUptoCard : Claim7 := { stood := { row := mixturesBackUptoRow, standIns := [], harness := (true, "d2208d26931d68ca4b57edb447e29848763d2bcc8d72da3f5d2206413d0d89b5"), looks := false }, kinds := [], alts := [], laidByText := true, laidKinds := [.data, .data, .data], laidTests := true, laidLooks := .later }
def MixturesBackUptoCardSaid : Prop := Claim7.holds Tryz.pinned (.plain (OpenSpec.upto mixturesBackSpec)) mixturesBackUptoCard

/-- THE SECOND FORM's CARD OF 'quintadenalaw11.MixturesParts'. -/
def mixturesPartsUptoCard : Claim7 := { stood := { row := mixturesPartsUptoRow, standIns := [], harness := (true, "d2208d26931d68ca4b57edb447e29848763d2bcc8d72da3f5d2206413d0d89b5"), looks := false }, kinds := [], alts := [], laidByText := true, laidKinds := [.data, .data, .data], laidTests := true, laidLooks := .later }
def MixturesPartsUptoCardSaid : Prop := Claim7.holds Tryz.pinned (.plain (OpenSpec.upto mixturesPartsSpec)) mixturesPartsUptoCard

/-- THE SECOND FORM's CARD OF 'quintadenalaw11.MixturesSound'. -/
def mixturesSoundUptoCard : Claim7 := { stood := { row := mixturesSoundUptoRow, standIns := [], harness := (true, "d2208d26931d68ca4b57edb447e29848763d2bcc8d72da3f5d2206413d0d89b5"), looks := false }, kinds := [], alts := [], laidByText := true, laidKinds := [.data, .data, .data], laidTests := true, laidLooks := .later }
def MixturesSoundUptoCardSaid : Prop := Claim7.holds Tryz.pinned (.plain (OpenSpec.upto mixturesSoundSpec)) mixturesSoundUptoCard

/-- THE SECOND FORM's CARD OF 'quintadenalaw11.MixturesKnown'. -/
def mixturesKnownUptoCard : Claim7 := { stood := { row := mixturesKnownUptoRow, standIns := [], harness := (true, "d2208d26931d68ca4b57edb447e29848763d2bcc8d72da3f5d2206413d0d89b5"), looks := false }, kinds := [], alts := [], laidByText := true, laidKinds := [.data, .data, .data], laidTests := true, laidLooks := .later }
def MixturesKnownUptoCardSaid : Prop := Claim7.holds Tryz.pinned (.plain (OpenSpec.upto mixturesKnownSpec)) mixturesKnownUptoCard
end Rows
end Go.Proofs.YtafadpaljanghaaGreatDoor
