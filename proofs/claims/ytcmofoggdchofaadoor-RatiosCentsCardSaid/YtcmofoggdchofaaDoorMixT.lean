/- Package ratios: terms in memory; check. -/
import Derived.Test.YtcmofoggdchofaaDoorMixR
import Derived.Test.YtcmofoggdchofaaDoorMixJ
namespace Go.Proofs.YtcmofoggdchofaaDoor
set_option linter.unusedSimpArgs false
open Go.RowKit
set_option linter.unusedVariables false

def pair128 (V U : Nat) : Array Value := #[.int .u64 (V / W64 : Nat), .int .u64 (V % W64 : Nat), .int .u64 (U / W64 : Nat), .int .u64 (U % W64 : Nat)]
theorem gsum_snoc (n : Nat) (k : Int) : ∀ l : List (Nat × Int), gsum (l ++ [(n, k)]) = if 0 ≤ k then (((gsum l).1.1 + (qk n).1 * k.natAbs, (gsum l).1.2 + (qk n).2 * k.natAbs), (gsum l).2) else ((gsum l).1, ((gsum l).2.1 + (qk n).1 * k.natAbs, (gsum l).2.2 + (qk n).2 * k.natAbs))
  | [] => by simp [gsum]
  | (m, j) :: l => by
    rw [List.cons_append, gsum, gsum_snoc n k l, gsum]
    split <;> split <;> simp only [] <;> (try split) <;> simp [Nat.add_comm, Nat.add_left_comm, Nat.add_assoc]
/-- quick's bounds of a number are qk's, wherever it is called -/
def QK (n : Nat) : Prop := ∀ W : World, Calls Tryd.prog 57 #[.int .i64 n] W fun e w' => e = .returned (.tuple #[.int .u64 ((qk n).1 : Nat), .int .u64 ((qk n).2 : Nat)]) ∧ ∃ m, w' = W.drewN m
structure Good (l : List (Nat × Int)) : Prop where
  q : ∀ x ∈ l, QK x.1
  k : ∀ x ∈ l, x.2.natAbs < 1000000000000000000
  b : ∀ x ∈ l, (qk x.1).1 < 1000000000000 ∧ (qk x.1).2 < 1000000000000

end Go.Proofs.YtcmofoggdchofaaDoor
