/-
  NARROWER THAN 'FOR EVERY INPUT', by the rows' own cells (each row's printed sentence says how): RatiosOf: laid · RatiosOrders: laid · RatiosMuls: laid · RatiosCents: laid.
  DERIVED. THE GIVEN ROWS OF THIS SEAT. 4 by the template 'for every input the law returns true; each argument reads behind the call as it read before'; 0 by the template 'total and deterministic' (their statements: YtcmofoggdchofaaDoorTotals.lean).
  GIVEN WITH THE SEED: the statements are not yours to turn. If you find one false, say at which input.
  Laid BY PROGRAM, IN A SANDBOX (cutbox-rows.mjs): the forced cells as the released guide's own fill.sh prints them over the translation 883488f93f23f506… (all of the seat's roots in one cut). By AI agents, Wed Nov 11 2026. No macro, syntax, notation, axiom, sorry.
-/
import Derived.Test.YtcmofoggdchofaaDoorChecked
import GoSem.Claim
import GoSem.ClaimJoined
import GoSem.ClaimMapViews
import Derived.JoinedTies
import Derived.KernelRfl
namespace Go.Proofs.YtcmofoggdchofaaDoor
/- THE CELL 'sum', in the pinned program and in every row, IS THE sha256 OF THE DUMP (.gsa) THAT YtcmofoggdchofaaDoorProg.lean LOADS. Nothing in Lean hashes anything: it is a label: what it is worth is what the hold of that sum in a sandbox is worth. -/
noncomputable def Tryd.pinned : Pinned := { name := "ytcmofoggdchofaadoor", sum := "883488f93f23f50605111cf4e147147703fcc6a417956f87c8a2332b915908ae", checked := Tryd.checked }
namespace Rows
def none {H : Type} : Left H := { results := [], args := [] }

/- WHAT THE LISTED PACKAGE-LEVEL VARIABLES READ AS WHEN THE CALL BEGINS. Each datum BY PROGRAM (the guide's laid-datum.mjs) off the statement by which the dump's own 'gosem.cut.vars' lays the variable. In a bare row this is a premise. The card (YtcmofoggdchofaaDoorCards.lean) ties it to the program's text. -/
def laid_quintadena_ratios_primes {H : Type} : DataW H := .agg [.lit (.int .i64 2), .lit (.int .i64 3), .lit (.int .i64 5), .lit (.int .i64 7), .lit (.int .i64 11), .lit (.int .i64 13)]

/-- 'quintadenalaw04.RatiosOf': WHATEVER THE INPUT: true; the input reads as it did. -/
def ratiosOfSpec : ChangeSpec := { name := "ratiosOf", fn := fun _ => fun
  | [d1, d2, d3] => { results := [.lit (.bool true)], args := [d1, d2, d3] }
  | _ => none }
def ratiosOfRow : OpenClaim := { program := "ytcmofoggdchofaadoor", sum := "883488f93f23f50605111cf4e147147703fcc6a417956f87c8a2332b915908ae", func := "quintadena/quintadenalaw04.RatiosOf", spec := "ratiosOf", inPlace := ["math/bits.Add64"], unfollowed := true, recurses := true, named := ["quintadena/ratios.primes"], apart := false, laid := [("quintadena/ratios.primes", laid_quintadena_ratios_primes)] }
def RatiosOfSaid : Prop := ratiosOfRow.holds Tryd.pinned (OpenSpec.ofChange ratiosOfSpec)

/-- ITS FALSE NEIGHBOUR: 'it returns false'. Refute it at one input. -/
def ratiosOfWrong : ChangeSpec := { name := "ratiosOf", fn := fun _ => fun
  | [d1, d2, d3] => { results := [.lit (.bool false)], args := [d1, d2, d3] }
  | _ => none }
def RatiosOfWrongFalsely : Prop := ratiosOfRow.holds Tryd.pinned (OpenSpec.ofChange ratiosOfWrong)

/-- 'quintadenalaw04.RatiosOrders': WHATEVER THE INPUT: true; the input reads as it did. -/
def ratiosOrdersSpec : ChangeSpec := { name := "ratiosOrders", fn := fun _ => fun
  | [d1, d2] => { results := [.lit (.bool true)], args := [d1, d2] }
  | _ => none }
def ratiosOrdersRow : OpenClaim := { program := "ytcmofoggdchofaadoor", sum := "883488f93f23f50605111cf4e147147703fcc6a417956f87c8a2332b915908ae", func := "quintadena/quintadenalaw04.RatiosOrders", spec := "ratiosOrders", inPlace := ["math/bits.Add64"], unfollowed := true, recurses := true, named := ["quintadena/ratios.primes"], apart := false, laid := [("quintadena/ratios.primes", laid_quintadena_ratios_primes)] }
def RatiosOrdersSaid : Prop := ratiosOrdersRow.holds Tryd.pinned (OpenSpec.ofChange ratiosOrdersSpec)

/-- ITS FALSE NEIGHBOUR: 'it returns false'. Refute it at one input. -/
def ratiosOrdersWrong : ChangeSpec := { name := "ratiosOrders", fn := fun _ => fun
  | [d1, d2] => { results := [.lit (.bool false)], args := [d1, d2] }
  | _ => none }
def RatiosOrdersWrongFalsely : Prop := ratiosOrdersRow.holds Tryd.pinned (OpenSpec.ofChange ratiosOrdersWrong)

/-- 'quintadenalaw04.RatiosMuls': WHATEVER THE INPUT: true; the input reads as it did. -/
def ratiosMulsSpec : ChangeSpec := { name := "ratiosMuls", fn := fun _ => fun
  | [d1, d2, d3] => { results := [.lit (.bool true)], args := [d1, d2, d3] }
  | _ => none }
def ratiosMulsRow : OpenClaim := { program := "ytcmofoggdchofaadoor", sum := "883488f93f23f50605111cf4e147147703fcc6a417956f87c8a2332b915908ae", func := "quintadena/quintadenalaw04.RatiosMuls", spec := "ratiosMuls", inPlace := ["math/bits.Add64"], unfollowed := true, recurses := true, named := ["quintadena/ratios.primes"], apart := false, laid := [("quintadena/ratios.primes", laid_quintadena_ratios_primes)] }
def RatiosMulsSaid : Prop := ratiosMulsRow.holds Tryd.pinned (OpenSpec.ofChange ratiosMulsSpec)

/-- ITS FALSE NEIGHBOUR: 'it returns false'. Refute it at one input. -/
def ratiosMulsWrong : ChangeSpec := { name := "ratiosMuls", fn := fun _ => fun
  | [d1, d2, d3] => { results := [.lit (.bool false)], args := [d1, d2, d3] }
  | _ => none }
def RatiosMulsWrongFalsely : Prop := ratiosMulsRow.holds Tryd.pinned (OpenSpec.ofChange ratiosMulsWrong)

/-- 'quintadenalaw04.RatiosCents': WHATEVER THE INPUT: true; the input reads as it did. -/
def ratiosCentsSpec : ChangeSpec := { name := "ratiosCents", fn := fun _ => fun
  | [d1, d2] => { results := [.lit (.bool true)], args := [d1, d2] }
  | _ => none }
def ratiosCentsRow : OpenClaim := { program := "ytcmofoggdchofaadoor", sum := "883488f93f23f50605111cf4e147147703fcc6a417956f87c8a2332b915908ae", func := "quintadena/quintadenalaw04.RatiosCents", spec := "ratiosCents", inPlace := ["math/bits.Add64"], unfollowed := true, recurses := true, named := ["quintadena/ratios.primes"], apart := false, laid := [("quintadena/ratios.primes", laid_quintadena_ratios_primes)] }
def RatiosCentsSaid : Prop := ratiosCentsRow.holds Tryd.pinned (OpenSpec.ofChange ratiosCentsSpec)

/-- ITS FALSE NEIGHBOUR: 'it returns false'. Refute it at one input. -/
def ratiosCentsWrong : ChangeSpec := { name := "ratiosCents", fn := fun _ => fun
  | [d1, d2] => { results := [.lit (.bool false)], args := [d1, d2] }
  | _ => none }
def RatiosCentsWrongFalsely : Prop := ratiosCentsRow.holds Tryd.pinned (OpenSpec.ofChange ratiosCentsWrong)

/- THE SECOND FORM. 'bulk': how many values and letters a reading holds, each counted each time it is reached (what is shared counts as often as it is met; a slice's spare places count too). A statement '..UptoSaid' is the law's where the arguments, and the package variables that the reading takes, are together of bulk at most 1048576: NARROWER than '..Said'. Prove '..Said' where nothing that the law and all that it calls make is longer than what came in: it says more and counts as full. Else prove '..UptoSaid'. A law counts once. -/
mutual
def uptoBulk {H : Type} : DataW H → Nat
  | .lit (.string bytes) => bytes.length + 1
  | .lit _ => 1
  | .nil => 1
  | .ptr d => uptoBulk d + 1
  | .slice elems spare => uptoBulkAll elems + uptoBulkAll spare + 1
  | .agg parts => uptoBulkAll parts + 1
  | .iface _ d => uptoBulk d + 1
  | .map entries => uptoBulkEntries entries + 1
  | .held _ => 1
def uptoBulkAll {H : Type} : List (DataW H) → Nat
  | [] => 0
  | d :: r => uptoBulk d + uptoBulkAll r
def uptoBulkEntries {H : Type} : List (Lit × DataW H) → Nat
  | [] => 0
  | x :: r => uptoBulkEntry x + uptoBulkEntries r
def uptoBulkEntry {H : Type} : Lit × DataW H → Nat
  | (.string bytes, d) => bytes.length + uptoBulk d + 1
  | (_, d) => uptoBulk d + 1
 end
def uptoSmall : (H : Type) → List (DataW H) → Bool := fun _ ds => decide (uptoBulkAll ds ≤ 1048576)
def OpenSpec.upto (s : _root_.Go.ChangeSpec) : _root_.Go.OpenSpec := { _root_.Go.OpenSpec.ofChange s with cond := some uptoSmall }

/-- 'quintadenalaw04.RatiosOf', WHERE WHAT IT READS IS OF BULK AT MOST 1048576: true; the input reads as it did. -/
def ratiosOfUptoRow : OpenClaim := { program := "ytcmofoggdchofaadoor", sum := "883488f93f23f50605111cf4e147147703fcc6a417956f87c8a2332b915908ae", func := "quintadena/quintadenalaw04.RatiosOf", spec := "ratiosOf", inPlace := ["math/bits.Add64"], unfollowed := true, recurses := true, named := ["quintadena/ratios.primes"], apart := false, laid := [("quintadena/ratios.primes", laid_quintadena_ratios_primes)], narrowed := true }
def RatiosOfUptoSaid : Prop := ratiosOfUptoRow.holds Tryd.pinned (OpenSpec.upto ratiosOfSpec)

/-- 'quintadenalaw04.RatiosOrders', WHERE WHAT IT READS IS OF BULK AT MOST 1048576: true; the input reads as it did. -/
def ratiosOrdersUptoRow : OpenClaim := { program := "ytcmofoggdchofaadoor", sum := "883488f93f23f50605111cf4e147147703fcc6a417956f87c8a2332b915908ae", func := "quintadena/quintadenalaw04.RatiosOrders", spec := "ratiosOrders", inPlace := ["math/bits.Add64"], unfollowed := true, recurses := true, named := ["quintadena/ratios.primes"], apart := false, laid := [("quintadena/ratios.primes", laid_quintadena_ratios_primes)], narrowed := true }
def RatiosOrdersUptoSaid : Prop := ratiosOrdersUptoRow.holds Tryd.pinned (OpenSpec.upto ratiosOrdersSpec)

/-- 'quintadenalaw04.RatiosMuls', WHERE WHAT IT READS IS OF BULK AT MOST 1048576: true; the input reads as it did. -/
def ratiosMulsUptoRow : OpenClaim := { program := "ytcmofoggdchofaadoor", sum := "883488f93f23f50605111cf4e147147703fcc6a417956f87c8a2332b915908ae", func := "quintadena/quintadenalaw04.RatiosMuls", spec := "ratiosMuls", inPlace := ["math/bits.Add64"], unfollowed := true, recurses := true, named := ["quintadena/ratios.primes"], apart := false, laid := [("quintadena/ratios.primes", laid_quintadena_ratios_primes)], narrowed := true }
def RatiosMulsUptoSaid : Prop := ratiosMulsUptoRow.holds Tryd.pinned (OpenSpec.upto ratiosMulsSpec)

/-- 'quintadenalaw04.RatiosCents', WHERE WHAT IT READS IS OF BULK AT MOST 1048576: true; the input reads as it did. -/
def ratiosCentsUptoRow : OpenClaim := { program := "ytcmofoggdchofaadoor", sum := "883488f93f23f50605111cf4e147147703fcc6a417956f87c8a2332b915908ae", func := "quintadena/quintadenalaw04.RatiosCents", spec := "ratiosCents", inPlace := ["math/bits.Add64"], unfollowed := true, recurses := true, named := ["quintadena/ratios.primes"], apart := false, laid := [("quintadena/ratios.primes", laid_quintadena_ratios_primes)], narrowed := true }
def RatiosCentsUptoSaid : Prop := ratiosCentsUptoRow.holds Tryd.pinned (OpenSpec.upto ratiosCentsSpec)

end Rows
end Go.Proofs.YtcmofoggdchofaaDoor
