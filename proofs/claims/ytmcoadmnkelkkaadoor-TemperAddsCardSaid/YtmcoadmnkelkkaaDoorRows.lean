/-
  NARROWER THAN 'FOR EVERY INPUT', by the rows' own cells (each row's printed sentence says how): TemperChecks: laid · TemperAdds: laid · TemperTurns: laid · TemperTurned: laid.
  DERIVED. THE GIVEN ROWS OF THIS SEAT. 4 by the template 'for every input the law returns true; each argument reads behind the call as it read before'; 0 by the template 'total and deterministic' (their statements: YtmcoadmnkelkkaaDoorTotals.lean).
  GIVEN WITH THE SEED: the statements are not yours to turn. If you find one false, say at which input.
  Laid BY PROGRAM, IN A SANDBOX (cutbox-rows.mjs): the forced cells as the released guide's own fill.sh prints them over the translation db60afe99d318f1b… (all of the seat's roots in one cut). By AI agents, Wed Nov 11 2026. No macro, syntax, notation, axiom, sorry.
-/
import Derived.Test.YtmcoadmnkelkkaaDoorChecked
import GoSem.Claim
import GoSem.ClaimJoined
import GoSem.ClaimMapViews
import Derived.JoinedTies
import Derived.KernelRfl
namespace Go.Proofs.YtmcoadmnkelkkaaDoor
/- THE CELL 'sum', in the pinned program and in every row, IS THE sha256 OF THE DUMP (.gsa) THAT YtmcoadmnkelkkaaDoorProg.lean LOADS. Nothing in Lean hashes anything: it is a label: what it is worth is what the hold of that sum in a sandbox is worth. -/
noncomputable def Tryd.pinned : Pinned := { name := "ytmcoadmnkelkkaadoor", sum := "db60afe99d318f1b124f5c8fae47811e13438cb4cae1c3caa82b873ffa871ce9", checked := Tryd.checked }
namespace Rows
def none {H : Type} : Left H := { results := [], args := [] }

/- WHAT THE LISTED PACKAGE-LEVEL VARIABLES READ AS WHEN THE CALL BEGINS. Each datum BY PROGRAM (the guide's laid-datum.mjs) off the statement by which the dump's own 'gosem.cut.vars' lays the variable. In a bare row this is a premise. The card (YtmcoadmnkelkkaaDoorCards.lean) ties it to the program's text. -/
def laid_quintadena_ratios_primes {H : Type} : DataW H := .agg [.lit (.int .i64 2), .lit (.int .i64 3), .lit (.int .i64 5), .lit (.int .i64 7), .lit (.int .i64 11), .lit (.int .i64 13)]

/-- 'quintadenalaw05.TemperChecks': WHATEVER THE INPUT: true; the input reads as it did. -/
def temperChecksSpec : ChangeSpec := { name := "temperChecks", fn := fun _ => fun
  | [d] => { results := [.lit (.bool true)], args := [d] }
  | _ => none }
def temperChecksRow : OpenClaim := { program := "ytmcoadmnkelkkaadoor", sum := "db60afe99d318f1b124f5c8fae47811e13438cb4cae1c3caa82b873ffa871ce9", func := "quintadena/quintadenalaw05.TemperChecks", spec := "temperChecks", inPlace := ["math/bits.Add64"], unfollowed := true, recurses := true, named := ["quintadena/ratios.primes"], apart := false, laid := [("quintadena/ratios.primes", laid_quintadena_ratios_primes)] }
def TemperChecksSaid : Prop := temperChecksRow.holds Tryd.pinned (OpenSpec.ofChange temperChecksSpec)

/-- ITS FALSE NEIGHBOUR: 'it returns false'. Refute it at one input. -/
def temperChecksWrong : ChangeSpec := { name := "temperChecks", fn := fun _ => fun
  | [d] => { results := [.lit (.bool false)], args := [d] }
  | _ => none }
def TemperChecksWrongFalsely : Prop := temperChecksRow.holds Tryd.pinned (OpenSpec.ofChange temperChecksWrong)

/-- 'quintadenalaw05.TemperAdds': WHATEVER THE INPUT: true; the input reads as it did. -/
def temperAddsSpec : ChangeSpec := { name := "temperAdds", fn := fun _ => fun
  | [d1, d2] => { results := [.lit (.bool true)], args := [d1, d2] }
  | _ => none }
def temperAddsRow : OpenClaim := { program := "ytmcoadmnkelkkaadoor", sum := "db60afe99d318f1b124f5c8fae47811e13438cb4cae1c3caa82b873ffa871ce9", func := "quintadena/quintadenalaw05.TemperAdds", spec := "temperAdds", inPlace := ["math/bits.Add64"], unfollowed := true, recurses := true, named := ["quintadena/ratios.primes"], apart := false, laid := [("quintadena/ratios.primes", laid_quintadena_ratios_primes)] }
def TemperAddsSaid : Prop := temperAddsRow.holds Tryd.pinned (OpenSpec.ofChange temperAddsSpec)

/-- ITS FALSE NEIGHBOUR: 'it returns false'. Refute it at one input. -/
def temperAddsWrong : ChangeSpec := { name := "temperAdds", fn := fun _ => fun
  | [d1, d2] => { results := [.lit (.bool false)], args := [d1, d2] }
  | _ => none }
def TemperAddsWrongFalsely : Prop := temperAddsRow.holds Tryd.pinned (OpenSpec.ofChange temperAddsWrong)

/-- 'quintadenalaw05.TemperTurns': WHATEVER THE INPUT: true; the input reads as it did. -/
def temperTurnsSpec : ChangeSpec := { name := "temperTurns", fn := fun _ => fun
  | [d1, d2, d3] => { results := [.lit (.bool true)], args := [d1, d2, d3] }
  | _ => none }
def temperTurnsRow : OpenClaim := { program := "ytmcoadmnkelkkaadoor", sum := "db60afe99d318f1b124f5c8fae47811e13438cb4cae1c3caa82b873ffa871ce9", func := "quintadena/quintadenalaw05.TemperTurns", spec := "temperTurns", inPlace := ["math/bits.Add64"], unfollowed := true, recurses := true, named := ["quintadena/ratios.primes"], apart := false, laid := [("quintadena/ratios.primes", laid_quintadena_ratios_primes)] }
def TemperTurnsSaid : Prop := temperTurnsRow.holds Tryd.pinned (OpenSpec.ofChange temperTurnsSpec)

/-- ITS FALSE NEIGHBOUR: 'it returns false'. Refute it at one input. -/
def temperTurnsWrong : ChangeSpec := { name := "temperTurns", fn := fun _ => fun
  | [d1, d2, d3] => { results := [.lit (.bool false)], args := [d1, d2, d3] }
  | _ => none }
def TemperTurnsWrongFalsely : Prop := temperTurnsRow.holds Tryd.pinned (OpenSpec.ofChange temperTurnsWrong)

/-- 'quintadenalaw05.TemperTurned': WHATEVER THE INPUT: true; the input reads as it did. -/
def temperTurnedSpec : ChangeSpec := { name := "temperTurned", fn := fun _ => fun
  | [d1, d2] => { results := [.lit (.bool true)], args := [d1, d2] }
  | _ => none }
def temperTurnedRow : OpenClaim := { program := "ytmcoadmnkelkkaadoor", sum := "db60afe99d318f1b124f5c8fae47811e13438cb4cae1c3caa82b873ffa871ce9", func := "quintadena/quintadenalaw05.TemperTurned", spec := "temperTurned", inPlace := ["math/bits.Add64"], unfollowed := true, recurses := true, named := ["quintadena/ratios.primes"], apart := false, laid := [("quintadena/ratios.primes", laid_quintadena_ratios_primes)] }
def TemperTurnedSaid : Prop := temperTurnedRow.holds Tryd.pinned (OpenSpec.ofChange temperTurnedSpec)

/-- ITS FALSE NEIGHBOUR: 'it returns false'. Refute it at one input. -/
def temperTurnedWrong : ChangeSpec := { name := "temperTurned", fn := fun _ => fun
  | [d1, d2] => { results := [.lit (.bool false)], args := [d1, d2] }
  | _ => none }
def TemperTurnedWrongFalsely : Prop := temperTurnedRow.holds Tryd.pinned (OpenSpec.ofChange temperTurnedWrong)

/- THE SECOND FORM. 'bulk': how many values and letters a reading holds, each counted each time it is reached (what is shared counts as often as it is met; a slice's spare places count too). A statement '..UptoSaid' is the law's where the arguments, and the package variables that the reading takes, are together of bulk at most 1048576: NARROWER than '..Said'. Prove '..Said' where nothing that the law and all that it calls make is longer than what came in: it says more and counts as full. Else prove '..UptoSaid'. A law counts once. -/
mutual
def uptoBulk {H : Type} : DataW H → Nat
  | .lit (.string bytes) => bytes.length + 1
  | .lit _ => 1
  | .nil => 1
  | .ptr d => uptoBulk d + 1
  | .slice elems spare => uptoBulkAll elems + uptoBulkAll spare + 1
  | .agg parts => uptoBulkAll parts + 1
  | .iface _ d => uptoBulk d + 1
  | .map entries => uptoBulkEntries entries + 1
  | .held _ => 1
def uptoBulkAll {H : Type} : List (DataW H) → Nat
  | [] => 0
  | d :: r => uptoBulk d + uptoBulkAll r
def uptoBulkEntries {H : Type} : List (Lit × DataW H) → Nat
  | [] => 0
  | x :: r => uptoBulkEntry x + uptoBulkEntries r
def uptoBulkEntry {H : Type} : Lit × DataW H → Nat
  | (.string bytes, d) => bytes.length + uptoBulk d + 1
  | (_, d) => uptoBulk d + 1
 end
def uptoSmall : (H : Type) → List (DataW H) → Bool := fun _ ds => decide (uptoBulkAll ds ≤ 1048576)
def OpenSpec.upto (s : _root_.Go.ChangeSpec) : _root_.Go.OpenSpec := { _root_.Go.OpenSpec.ofChange s with cond := some uptoSmall }

/-- 'quintadenalaw05.TemperChecks', WHERE WHAT IT READS IS OF BULK AT MOST 1048576: true; the input reads as it did. -/
def temperChecksUptoRow : OpenClaim := { program := "ytmcoadmnkelkkaadoor", sum := "db60afe99d318f1b124f5c8fae47811e13438cb4cae1c3caa82b873ffa871ce9", func := "quintadena/quintadenalaw05.TemperChecks", spec := "temperChecks", inPlace := ["math/bits.Add64"], unfollowed := true, recurses := true, named := ["quintadena/ratios.primes"], apart := false, laid := [("quintadena/ratios.primes", laid_quintadena_ratios_primes)], narrowed := true }
def TemperChecksUptoSaid : Prop := temperChecksUptoRow.holds Tryd.pinned (OpenSpec.upto temperChecksSpec)

/-- 'quintadenalaw05.TemperAdds', WHERE WHAT IT READS IS OF BULK AT MOST 1048576: true; the input reads as it did. -/
def temperAddsUptoRow : OpenClaim := { program := "ytmcoadmnkelkkaadoor", sum := "db60afe99d318f1b124f5c8fae47811e13438cb4cae1c3caa82b873ffa871ce9", func := "quintadena/quintadenalaw05.TemperAdds", spec := "temperAdds", inPlace := ["math/bits.Add64"], unfollowed := true, recurses := true, named := ["quintadena/ratios.primes"], apart := false, laid := [("quintadena/ratios.primes", laid_quintadena_ratios_primes)], narrowed := true }
def TemperAddsUptoSaid : Prop := temperAddsUptoRow.holds Tryd.pinned (OpenSpec.upto temperAddsSpec)

/-- 'quintadenalaw05.TemperTurns', WHERE WHAT IT READS IS OF BULK AT MOST 1048576: true; the input reads as it did. -/
def temperTurnsUptoRow : OpenClaim := { program := "ytmcoadmnkelkkaadoor", sum := "db60afe99d318f1b124f5c8fae47811e13438cb4cae1c3caa82b873ffa871ce9", func := "quintadena/quintadenalaw05.TemperTurns", spec := "temperTurns", inPlace := ["math/bits.Add64"], unfollowed := true, recurses := true, named := ["quintadena/ratios.primes"], apart := false, laid := [("quintadena/ratios.primes", laid_quintadena_ratios_primes)], narrowed := true }
def TemperTurnsUptoSaid : Prop := temperTurnsUptoRow.holds Tryd.pinned (OpenSpec.upto temperTurnsSpec)

/-- 'quintadenalaw05.TemperTurned', WHERE WHAT IT READS IS OF BULK AT MOST 1048576: true; the input reads as it did. -/
def temperTurnedUptoRow : OpenClaim := { program := "ytmcoadmnkelkkaadoor", sum := "db60afe99d318f1b124f5c8fae47811e13438cb4cae1c3caa82b873ffa871ce9", func := "quintadena/quintadenalaw05.TemperTurned", spec := "temperTurned", inPlace := ["math/bits.Add64"], unfollowed := true, recurses := true, named := ["quintadena/ratios.primes"], apart := false, laid := [("quintadena/ratios.primes", laid_quintadena_ratios_primes)], narrowed := true }
def TemperTurnedUptoSaid : Prop := temperTurnedUptoRow.holds Tryd.pinned (OpenSpec.upto temperTurnedSpec)

end Rows
end Go.Proofs.YtmcoadmnkelkkaaDoor
