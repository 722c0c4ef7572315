/- Mixtures in memory: breaks, rows of integers. -/
import Derived.Test.YtbaojmfkjpnfhaaGreatDoorMixG
import Derived.Test.YtbaojmfkjpnfhaaGreatDoorMyA
namespace Go.Proofs.YtbaojmfkjpnfhaaGreatDoor
set_option linter.unusedSimpArgs false
open Go.RowKit
set_option linter.unusedVariables false

def i64 (z : Int) : Prop := -9223372036854775808 ≤ z ∧ z < 9223372036854775808
def iv (z : Int) : Value := .int .i64 z
/-- integers lie here -/
def II (w : World) (A : Option Addr) (n : Nat) (l : List Int) : Prop := l.length = n ∧ Reads w w.heap.size 1 A n (l.map iv)
theorem II.below {w w' : World} {A : Option Addr} {n : Nat} {l : List Int} (h : II w A n l) (hb : Below w.heap.size w w') : II w' A n l := ⟨h.1, (h.2.below hb).more hb.size⟩
theorem II.nil (w : World) (A : Option Addr) : II w A 0 [] := ⟨rfl, by simp, fun h => absurd h (by omega)⟩
theorem II.cell {w : World} {A : Option Addr} {n : Nat} {l : List Int} (h : II w A n l) {j : Nat} (hj : j < n) : ∃ ad, A = some ad ∧ ad.block < w.heap.size ∧ w.cell? (ad.add j) = some (.int .i64 (gt l j)) := by
  obtain ⟨ad, e, hb, hc⟩ := h.2.2 (by omega)
  refine ⟨ad, e, hb, hc _ _ ?_⟩
  rw [List.getElem?_map, gt_at (by rw [h.1]; exact hj)]
  rfl
/-- a break in memory -/
structure Bk where
  fr : Int
  A : Option Addr
  n : Nat
  c : Nat
  l : List Int
def Bk.cells (b : Bk) : List Value := [.int .i64 b.fr, .slice b.A b.n b.c]
def bk0 : Bk := ⟨0, none, 0, 0, []⟩
theorem flatK (L : List Bk) : ∀ i b, L[i]? = some b → (L.flatMap Bk.cells)[i * 2]? = some (.int .i64 b.fr) ∧ (L.flatMap Bk.cells)[i * 2 + 1]? = some (.slice b.A b.n b.c) := by
  induction L with
  | nil => intro i x h; cases h
  | cons y l ih =>
    intro i x h
    cases i with
    | zero => cases h; simp [Bk.cells]
    | succ i =>
      have h1 := ih i x (by simpa using h)
      have e1 : (i + 1) * 2 = i * 2 + 1 + 1 := by omega
      rw [List.flatMap_cons, e1]
      simpa [Bk.cells] using h1
theorem flatK_len : ∀ L : List Bk, (L.flatMap Bk.cells).length = L.length * 2
  | [] => rfl
  | b :: L => by
    rw [List.flatMap_cons, List.length_append, flatK_len L, List.length_cons]
    show 2 + L.length * 2 = _
    omega
/-- breaks lie here -/
structure MX (w : World) (A : Option Addr) (n : Nat) (L : List Bk) : Prop where
  len : L.length = n
  rd : Reads w w.heap.size 2 A n (L.flatMap Bk.cells)
  rk : ∀ b ∈ L, II w b.A b.n b.l
theorem MX.below {w w' : World} {A : Option Addr} {n : Nat} {L : List Bk} (h : MX w A n L) (hb : Below w.heap.size w w') : MX w' A n L :=
  ⟨h.len, (h.rd.below hb).more hb.size, fun b hm => (h.rk b hm).below hb⟩
theorem MX.cells {w : World} {A : Option Addr} {n : Nat} {L : List Bk} (h : MX w A n L) {i : Nat} {b : Bk} (hi : L[i]? = some b) :
    ∃ ad, A = some ad ∧ ad.block < w.heap.size ∧ w.cell? (ad.add (i * 2)) = some (.int .i64 b.fr) ∧ w.cell? (ad.add (i * 2 + 1)) = some (.slice b.A b.n b.c) := by
  have hn : 0 < n := by rw [← h.len]; exact Nat.lt_of_le_of_lt (Nat.zero_le i) (List.getElem?_eq_some_iff.1 hi).1
  obtain ⟨ad, e, hb, hc⟩ := h.rd.2 hn
  obtain ⟨h1, h2⟩ := flatK L i b hi
  exact ⟨ad, e, hb, hc _ _ h1, hc _ _ h2⟩
/-- the mixture -/
def mxO (a b : Int) (L : List Bk) : Mx := ⟨a, b, L.length, fun i => (L[i]?.getD bk0).fr, fun i => (L[i]?.getD bk0).l⟩
theorem mxO_at {a b : Int} {L : List Bk} {i : Nat} {k : Bk} (h : L[i]? = some k) : (mxO a b L).fr i = k.fr ∧ (mxO a b L).rk i = k.l := by
  unfold mxO
  simp only [h, Option.getD_some, and_self]
/-- what an argument says beside -/
structure MXA (w : World) (A : Option Addr) (n c : Nat) (L : List Bk) : Prop where
  mx : MX w A n L
  cap : n ≤ c ∧ c ≤ maxLen
  fr : ∀ b ∈ L, i64 b.fr
  rc : ∀ b ∈ L, b.n ≤ b.c ∧ b.c ≤ maxLen
  ri : ∀ b ∈ L, ∀ z ∈ b.l, i64 z
theorem MXA.below {w w' : World} {A : Option Addr} {n c : Nat} {L : List Bk} (h : MXA w A n c L) (hb : Below w.heap.size w w') : MXA w' A n c L := ⟨h.mx.below hb, h.cap, h.fr, h.rc, h.ri⟩
end Go.Proofs.YtbaojmfkjpnfhaaGreatDoor
