/- Package ratios: the greatest common divisor. Package ratios: terms in memory. Package ratios: the greatest number for which something is true. Package ratios: the closures of Floor. -/
import Derived.Test.YtbaojmfkjpnfhaaGreatDoorBase
import Derived.Deep.RegionLawGrows
import Derived.Deep.RegionHeld3
namespace Go.Proofs.YtbaojmfkjpnfhaaGreatDoor
set_option linter.unusedSimpArgs false
open Go.RowKit
set_option linter.unusedVariables false

end Go.Proofs.YtbaojmfkjpnfhaaGreatDoor
namespace Go.Proofs.YtbaojmfkjpnfhaaGreatDoor
set_option linter.unusedSimpArgs false
open Go.RowKit
set_option linter.unusedVariables false

/-- terms lie here -/
def TR (w : World) (A : Option Addr) (n : Nat) (l : List (Nat × Int)) : Prop :=
  l.length = n ∧ Reads w w.heap.size 2 A n (l.flatMap fun x => [.int .i64 (x.1 : Int), .int .i64 x.2])
theorem TR.below {w w' : World} {A : Option Addr} {n : Nat} {l : List (Nat × Int)} (h : TR w A n l) (hb : Below w.heap.size w w') : TR w' A n l :=
  ⟨h.1, (h.2.below hb).more hb.size⟩
theorem flat2 (l : List (Nat × Int)) : ∀ i x, l[i]? = some x → (l.flatMap fun x => [Value.int .i64 (x.1 : Int), Value.int .i64 x.2])[i * 2]? = some (.int .i64 (x.1 : Int)) ∧ (l.flatMap fun x => [Value.int .i64 (x.1 : Int), Value.int .i64 x.2])[i * 2 + 1]? = some (.int .i64 x.2) := by
  induction l with
  | nil => intro i x h; cases h
  | cons y l ih =>
    intro i x h
    cases i with
    | zero => cases h; simp
    | succ i =>
      have h1 := ih i x (by simpa using h)
      have e1 : (i + 1) * 2 = i * 2 + 1 + 1 := by omega
      have e2 : (i + 1) * 2 + 1 = i * 2 + 1 + 1 + 1 := by omega
      rw [List.flatMap_cons, e1]
      simpa using h1
theorem TR.cells {w : World} {A : Option Addr} {n : Nat} {l : List (Nat × Int)} (h : TR w A n l) {i : Nat} {x : Nat × Int} (hi : l[i]? = some x) :
    ∃ ad, A = some ad ∧ ad.block < w.heap.size ∧ w.cell? (ad.add (i * 2)) = some (.int .i64 (x.1 : Int)) ∧ w.cell? (ad.add (i * 2 + 1)) = some (.int .i64 x.2) := by
  have hn : 0 < n := by rw [← h.1]; exact Nat.lt_of_le_of_lt (Nat.zero_le i) (List.getElem?_eq_some_iff.1 hi).1
  obtain ⟨ad, e, hb, hc⟩ := h.2.2 hn
  obtain ⟨h1, h2⟩ := flat2 l i x hi
  exact ⟨ad, e, hb, hc _ _ h1, hc _ _ h2⟩
end Go.Proofs.YtbaojmfkjpnfhaaGreatDoor
namespace Go.Proofs.YtbaojmfkjpnfhaaGreatDoor
set_option linter.unusedSimpArgs false
open Go.RowKit
set_option linter.unusedVariables false

/-- what greatest returns of a test P -/
def GrRes (P : Int → Bool) (low high : Int) (e : Ending) : Prop := ∃ m : Int, e = .returned (.int .i64 m) ∧ low ≤ m ∧ m < high ∧ (m = low ∨ P m = true) ∧ (m + 1 = high ∨ P (m + 1) = false)
end Go.Proofs.YtbaojmfkjpnfhaaGreatDoor
namespace Go.Proofs.YtbaojmfkjpnfhaaGreatDoor
set_option linter.unusedSimpArgs false
open Go.RowKit
set_option linter.unusedVariables false

theorem olds_at {w W : World} {ad b : Addr} {n j : Nat} {l : List (Nat × Int)} {u : Value} (h : TR w (some ad) n l) (hb : Below w.heap.size w W) (he : some ad = some b) (hu : (l.flatMap fun x => [Value.int .i64 (x.1 : Int), Value.int .i64 x.2])[j]? = some u) : W.cell? (b.add j) = some u := by
  cases he
  have hn : 0 < n := by
    have h1 := h.2.1
    have h2 := (List.getElem?_eq_some_iff.1 hu).1
    omega
  obtain ⟨a2, e, h3, h4⟩ := (h.2.below hb).2 hn
  cases e
  exact h4 j u hu
end Go.Proofs.YtbaojmfkjpnfhaaGreatDoor
