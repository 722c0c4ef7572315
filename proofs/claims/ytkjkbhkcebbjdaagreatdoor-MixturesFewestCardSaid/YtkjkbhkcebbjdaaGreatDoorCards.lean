/-
  DERIVED. GIVEN WITH THE SEED: THE CARDS: each row of YtkjkbhkcebbjdaaGreatDoorRows.lean that lists a variable, with what it lists TIED to the program's text (the seventh form; the later family's looks); each row that meets fmt, with fmt's text TOLD by the authors' own Lean function (tested against real Go, not proved from fmt's source: count such statements apart). THE CARD IS WHAT COUNTS. Prove the row's statement (the work); the ties are given (YtkjkbhkcebbjdaaGreatDoorTie.lean); close each card by the builder's one call (the guide's Derived/Test/ToyasCard.lean, 'card_holds'). Laid BY PROGRAM, IN A SANDBOX (cutbox-door.mjs). By AI agents, Wed Nov 11 2026. No macro, syntax, notation, axiom, sorry.
-/
import Derived.Test.YtkjkbhkcebbjdaaGreatDoorRows
import GoSem.ClaimSeven
namespace Go.Proofs.YtkjkbhkcebbjdaaGreatDoor
namespace Rows

/-- THE TIED CARD OF 'quintadenalaw11.MixturesRows'. -/
def mixturesRowsCard : Claim7 := { stood := { row := mixturesRowsRow, standIns := [], harness := (true, "25b389ac7086423c3789341abe11d9f296f43c11fa7919258180b149e81954e4"), looks := false }, kinds := [], alts := [], laidByText := true, laidKinds := [.data, .data, .data], laidTests := true, laidLooks := .later }
def MixturesRowsCardSaid : Prop := Claim7.holds Tryz.pinned (.plain (OpenSpec.ofChange mixturesRowsSpec)) mixturesRowsCard

/-- THE TIED CARD OF 'quintadenalaw11.MixturesPlans'. -/
def mixturesPlansCard : Claim7 := { stood := { row := mixturesPlansRow, standIns := [], harness := (true, "25b389ac7086423c3789341abe11d9f296f43c11fa7919258180b149e81954e4"), looks := false }, kinds := [], alts := [], laidByText := true, laidKinds := [.data, .data, .data], laidTests := true, laidLooks := .later }
def MixturesPlansCardSaid : Prop := Claim7.holds Tryz.pinned (.plain (OpenSpec.ofChange mixturesPlansSpec)) mixturesPlansCard

/-- THE TIED CARD OF 'quintadenalaw11.MixturesFewest'. -/
def mixturesFewestCard : Claim7 := { stood := { row := mixturesFewestRow, standIns := [], harness := (true, "25b389ac7086423c3789341abe11d9f296f43c11fa7919258180b149e81954e4"), looks := false }, kinds := [], alts := [], laidByText := true, laidKinds := [.data, .data, .data], laidTests := true, laidLooks := .later }
def MixturesFewestCardSaid : Prop := Claim7.holds Tryz.pinned (.plain (OpenSpec.ofChange mixturesFewestSpec)) mixturesFewestCard

/-- THE TIED CARD OF 'quintadenalaw11.MixturesSums'. -/
def mixturesSumsCard : Claim7 := { stood := { row := mixturesSumsRow, standIns := [], harness := (true, "25b389ac7086423c3789341abe11d9f296f43c11fa7919258180b149e81954e4"), looks := false }, kinds := [], alts := [], laidByText := true, laidKinds := [.data, .data, .data], laidTests := true, laidLooks := .later }
def MixturesSumsCardSaid : Prop := Claim7.holds Tryz.pinned (.plain (OpenSpec.ofChange mixturesSumsSpec)) mixturesSumsCard

/-- THE TIED CARD OF 'quintadenalaw11.MixturesTables'. -/
def mixturesTablesCard : Claim7 := { stood := { row := mixturesTablesRow, standIns := [], harness := (true, "25b389ac7086423c3789341abe11d9f296f43c11fa7919258180b149e81954e4"), looks := false }, kinds := [], alts := [], laidByText := true, laidKinds := [.data, .data, .data], laidTests := true, laidLooks := .later }
def MixturesTablesCardSaid : Prop := Claim7.holds Tryz.pinned (.plain (OpenSpec.ofChange mixturesTablesSpec)) mixturesTablesCard

/-- THE SECOND FORM's CARD OF 'quintadenalaw11.MixturesRows'. -/
def mixturesRowsUptoCard : Claim7 := { stood := { row := mixturesRowsUptoRow, standIns := [], harness := (true, "25b389ac7086423c3789341abe11d9f296f43c11fa7919258180b149e81954e4"), looks := false }, kinds := [], alts := [], laidByText := true, laidKinds := [.data, .data, .data], laidTests := true, laidLooks := .later }
def MixturesRowsUptoCardSaid : Prop := Claim7.holds Tryz.pinned (.plain (OpenSpec.upto mixturesRowsSpec)) mixturesRowsUptoCard

/-- THE SECOND FORM's CARD OF 'quintadenalaw11.MixturesPlans'. -/
def mixturesPlansUptoCard : Claim7 := { stood := { row := mixturesPlansUptoRow, standIns := [], harness := (true, "25b389ac7086423c3789341abe11d9f296f43c11fa7919258180b149e81954e4"), looks := false }, kinds := [], alts := [], laidByText := true, laidKinds := [.data, .data, .data], laidTests := true, laidLooks := .later }
def MixturesPlansUptoCardSaid : Prop := Claim7.holds Tryz.pinned (.plain (OpenSpec.upto mixturesPlansSpec)) mixturesPlansUptoCard

/-- THE SECOND FORM's CARD OF 'quintadenalaw11.MixturesFewest'. -/
def mixturesFewestUptoCard : Claim7 := { stood := { row := mixturesFewestUptoRow, standIns := [], harness := (true, "25b389ac7086423c3789341abe11d9f296f43c11fa7919258180b149e81954e4"), looks := false }, kinds := [], alts := [], laidByText := true, laidKinds := [.data, .data, .data], laidTests := true, laidLooks := .later }
def MixturesFewestUptoCardSaid : Prop := Claim7.holds Tryz.pinned (.plain (OpenSpec.upto mixturesFewestSpec)) mixturesFewestUptoCard

/-- THE SECOND FORM's CARD OF 'quintadenalaw11.MixturesSums'. -/
def mixturesSumsUptoCard : Claim7 := { stood := { row := mixturesSumsUptoRow, standIns := [], harness := (true, "25b389ac7086423c3789341abe11d9f296f43c11fa7919258180b149e81954e4"), looks := false }, kinds := [], alts := [], laidByText := true, laidKinds := [.data, .data, .data], laidTests := true, laidLooks := .later }
def MixturesSumsUptoCardSaid : Prop := Claim7.holds Tryz.pinned (.plain (OpenSpec.upto mixturesSumsSpec)) mixturesSumsUptoCard

/-- THE SECOND FORM's CARD OF 'quintadenalaw11.MixturesTables'. -/
def mixturesTablesUptoCard : Claim7 := { stood := { row := mixturesTablesUptoRow, standIns := [], harness := (true, "25b389ac7086423c3789341abe11d9f296f43c11fa7919258180b149e81954e4"), looks := false }, kinds := [], alts := [], laidByText := true, laidKinds := [.data, .data, .data], laidTests := true, laidLooks := .later }
def MixturesTablesUptoCardSaid : Prop := Claim7.holds Tryz.pinned (.plain (OpenSpec.upto mixturesTablesSpec)) mixturesTablesUptoCard
end Rows
end Go.Proofs.YtkjkbhkcebbjdaaGreatDoor
