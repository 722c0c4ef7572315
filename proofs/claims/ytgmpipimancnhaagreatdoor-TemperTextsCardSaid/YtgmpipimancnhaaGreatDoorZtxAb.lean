/- A temperament as an argument of a law. (Printed by genrowg.py.) -/
import Derived.Test.YtgmpipimancnhaaGreatDoorZtxA
import Derived.Lib.SmallJoins
import Derived.Test.YtgmpipimancnhaaGreatDoorRatH
import Derived.Test.YtgmpipimancnhaaGreatDoorRatI
import Derived.Deep.RegionLaw
import Derived.Test.YtgmpipimancnhaaGreatDoorRefE
import Derived.Test.YtgmpipimancnhaaGreatDoorRatG
import Derived.Test.YtgmpipimancnhaaGreatDoorRatK
import Derived.Test.YtgmpipimancnhaaGreatDoorRefK
import Derived.Test.YtgmpipimancnhaaGreatDoorMixG
import Derived.Test.YtgmpipimancnhaaGreatDoorMixN
namespace Go.Proofs.YtgmpipimancnhaaGreatDoor
set_option linter.unusedSimpArgs false
open Go.ChangeShapes Go.WideShapes Go.ChangeAt Go.RowKit
set_option linter.unusedVariables false
set_option maxRecDepth 100000 in
theorem open_part {H : Type} {enc : TypeId × Value → H} {W : World} {b : Nat} {spare : Nat → Bool} {held : Bool} {fuel : Nat} {cs : List Value} {x : DataW H × List MemPlace} (h : DataW.trod enc Tryz.prog W b spare held fuel 23 cs = some x) :
    ∃ z0 z1 : Int, cs = [.int .i64 z0, .int .i64 z1] ∧ x.2 = [] := by
  obtain ⟨y0, y1, n, hx, hl, h0, h1⟩ := trod_struct2 Tryz.underlying23 h; obtain ⟨z0, c0, rfl, _⟩ := DataW.trod_int Tryz.underlying3 h0; obtain ⟨z1, c1, rfl, _⟩ := DataW.trod_int Tryz.underlying3 h1; have hc : Tryz.prog.cellsOf 3 = 1 := (by kernel_rfl); have hc2 : Tryz.prog.cellsOf 23 = 2 := (by kernel_rfl); rw [hc2] at hl; simp only [hc] at c0 c1; refine ⟨z0, z1, ?_, ?_⟩
  · match cs, hl with
    | [a0, a1], _ =>
      simp at c0 c1; rw [c0, c1]
  · simp only [Prod.mk.injEq] at hx; rw [hx]; rfl
set_option maxRecDepth 100000 in
set_option maxHeartbeats 1600000 in
theorem open_parts {H : Type} {enc : TypeId × Value → H} {W : World} {b : Nat} {spare : Nat → Bool} {held : Bool} {fuel : Nat} {cs : List Value} {x : DataW H × List MemPlace} (h : DataW.trod enc Tryz.prog W b spare held fuel 24 cs = some x) :
    ∃ n d : Nat → Int, cs = (TV.mk ⟨#[]⟩ false 0 n d).parts.toList ∧ x.2 = [] := by
  obtain ⟨ys, m, rfl, rfl, hl, hn, hf⟩ := DataW.trod_array Tryz.underlying24 h; have hc : Tryz.prog.cellsOf 23 = 2 := (by kernel_rfl); have hc24 : Tryz.prog.cellsOf 24 = 24 := (by kernel_rfl); rw [hc24] at hl
  match cs, hl, ys, hn with
  | [c0, c1, c2, c3, c4, c5, c6, c7, c8, c9, c10, c11, c12, c13, c14, c15, c16, c17, c18, c19, c20, c21, c22, c23], _, [y0, y1, y2, y3, y4, y5, y6, y7, y8, y9, y10, y11], _ =>
    have g0 := hf 0 (by omega); have g1 := hf 1 (by omega); have g2 := hf 2 (by omega); have g3 := hf 3 (by omega); have g4 := hf 4 (by omega); have g5 := hf 5 (by omega); have g6 := hf 6 (by omega); have g7 := hf 7 (by omega); have g8 := hf 8 (by omega); have g9 := hf 9 (by omega); have g10 := hf 10 (by omega); have g11 := hf 11 (by omega); simp [hc] at g0 g1 g2 g3 g4 g5 g6 g7 g8 g9 g10 g11; obtain ⟨n0, d0, e0, p0⟩ := open_part g0; obtain ⟨n1, d1, e1, p1⟩ := open_part g1; obtain ⟨n2, d2, e2, p2⟩ := open_part g2; obtain ⟨n3, d3, e3, p3⟩ := open_part g3; obtain ⟨n4, d4, e4, p4⟩ := open_part g4; obtain ⟨n5, d5, e5, p5⟩ := open_part g5; obtain ⟨n6, d6, e6, p6⟩ := open_part g6; obtain ⟨n7, d7, e7, p7⟩ := open_part g7; obtain ⟨n8, d8, e8, p8⟩ := open_part g8; obtain ⟨n9, d9, e9, p9⟩ := open_part g9; obtain ⟨n10, d10, e10, p10⟩ := open_part g10; obtain ⟨n11, d11, e11, p11⟩ := open_part g11; simp at e0 e1 e2 e3 e4 e5 e6 e7 e8 e9 e10 e11; obtain ⟨rfl, rfl⟩ := e0; obtain ⟨rfl, rfl⟩ := e1; obtain ⟨rfl, rfl⟩ := e2; obtain ⟨rfl, rfl⟩ := e3; obtain ⟨rfl, rfl⟩ := e4; obtain ⟨rfl, rfl⟩ := e5; obtain ⟨rfl, rfl⟩ := e6; obtain ⟨rfl, rfl⟩ := e7; obtain ⟨rfl, rfl⟩ := e8; obtain ⟨rfl, rfl⟩ := e9; obtain ⟨rfl, rfl⟩ := e10; obtain ⟨rfl, rfl⟩ := e11; refine ⟨fun i => if i = 0 then n0 else if i = 1 then n1 else if i = 2 then n2 else if i = 3 then n3 else if i = 4 then n4 else if i = 5 then n5 else if i = 6 then n6 else if i = 7 then n7 else if i = 8 then n8 else if i = 9 then n9 else if i = 10 then n10 else n11, fun i => if i = 0 then d0 else if i = 1 then d1 else if i = 2 then d2 else if i = 3 then d3 else if i = 4 then d4 else if i = 5 then d5 else if i = 6 then d6 else if i = 7 then d7 else if i = 8 then d8 else if i = 9 then d9 else if i = 10 then d10 else d11, rfl, ?_⟩; simp [p0, p1, p2, p3, p4, p5, p6, p7, p8, p9, p10, p11]
set_option maxRecDepth 100000 in
set_option maxHeartbeats 1600000 in
theorem temper_arg {H : Type} {enc : TypeId × Value → H} {W : World} {base : Nat} {v : Value} {d : DataW H} {ps : List MemPlace} (hval : Value.okWide Tryz.prog W .any base 26 v) (h : DataW.Trod enc Tryz.prog W 0 (fun _ => true) true 26 v d ps) :
    ∃ t : TV, v = .agg t.cells ∧ t.nm.size ≤ maxLen ∧ ps = [] := by
  obtain ⟨ws, rfl, _⟩ := okWide_struct Tryz.underlying26 hval; obtain ⟨fuel, h⟩ := h; obtain ⟨y0, y1, y2, y3, n, hx, hl, h0, h1, h2, h3⟩ := Go.Joins.trod_struct4 Tryz.underlying26 h; obtain ⟨s, c0, rfl, hs⟩ := DataW.trod_string Tryz.underlying9 h0; obtain ⟨b, c1, rfl⟩ := DataW.trod_bool Tryz.underlying4 h1; obtain ⟨z, c2, rfl, _⟩ := DataW.trod_int Tryz.underlying3 h2; obtain ⟨nn, dd, c3, p3⟩ := open_parts h3; have hcs : Tryz.prog.cellsOf 9 = 1 := (by kernel_rfl); have hcb : Tryz.prog.cellsOf 4 = 1 := (by kernel_rfl); have hci : Tryz.prog.cellsOf 3 = 1 := (by kernel_rfl); have hcp : Tryz.prog.cellsOf 24 = 24 := (by kernel_rfl); have hct : Tryz.prog.cellsOf 26 = 27 := (by kernel_rfl); simp only [Value.cells] at hl c0 c1 c2 c3; rw [hct] at hl; simp only [hcs, hcb, hci, hcp] at c0 c1 c2 c3; refine ⟨⟨s, b, z, nn, dd⟩, ?_, hs, ?_⟩
  · obtain ⟨l⟩ := ws; simp only at hl c0 c1 c2 c3
    match l, hl with
    | a0 :: a1 :: a2 :: r, hl =>
      simp at c0 c1 c2 c3 hl; subst c0 c1 c2
      have hr : r = (TV.mk ⟨#[]⟩ false 0 nn dd).parts.toList := by
        rw [← c3, List.take_of_length_le (by omega)]
      subst hr; rfl
  · simp only [Prod.mk.injEq] at hx; rw [hx.2, p3]; rfl
end Go.Proofs.YtgmpipimancnhaaGreatDoor
namespace Go.Proofs.YtgmpipimancnhaaGreatDoor
set_option linter.unusedSimpArgs false
open Go.RowKit
set_option linter.unusedVariables false
theorem RV.cell_num (r : RV) {i : Nat} (hi : i < 6) : r.cells[i]? = some (.int .i64 (r.num i)) := by
  have h6 : i = 0 ∨ i = 1 ∨ i = 2 ∨ i = 3 ∨ i = 4 ∨ i = 5 := (by omega); rcases h6 with rfl | rfl | rfl | rfl | rfl | rfl <;> rfl
end Go.Proofs.YtgmpipimancnhaaGreatDoor
namespace Go.Proofs.YtgmpipimancnhaaGreatDoor
set_option linter.unusedSimpArgs false
open Go.RowKit
set_option linter.unusedVariables false
end Go.Proofs.YtgmpipimancnhaaGreatDoor
namespace Go.Proofs.YtgmpipimancnhaaGreatDoor
set_option linter.unusedSimpArgs false
open Go.RowKit
set_option linter.unusedVariables false
structure Nx (o q : List Nat) (i k n : Nat) : Prop where
  len : q.length + (if i < n then 1 else 0) + (if k < n then 1 else 0) = n
  mem : ∀ p, p ∈ q ↔ ∃ j, j < n ∧ j ≠ i ∧ j ≠ k ∧ o[j]? = some p
theorem Nx.start (o : List Nat) (i k : Nat) : Nx o [] i k 0 := ⟨by simp, fun p => ⟨fun h => by simp at h, fun ⟨j, h, _⟩ => absurd h (Nat.not_lt_zero _)⟩⟩
theorem Nx.skip {o q : List Nat} {i k n : Nat} (h : Nx o q i k n) (hik : i ≠ k) (hn : n = i ∨ n = k) : Nx o q i k (n + 1) := by
  refine ⟨?_, fun p => (h.mem p).trans ⟨fun ⟨j, h1, h2⟩ => ⟨j, by omega, h2⟩, fun ⟨j, h1, h2, h3, h4⟩ => ⟨j, by rcases hn with rfl | rfl <;> omega, h2, h3, h4⟩⟩⟩; have := h.len; rcases hn with rfl | rfl
  · rw [if_neg (Nat.lt_irrefl _)] at this; rw [if_pos (Nat.lt_succ_self _)]
    by_cases h2 : k < n
    · rw [if_pos h2] at this; rw [if_pos (by omega)]; omega
    · rw [if_neg h2] at this; rw [if_neg (by omega)]; omega
  · rw [if_neg (Nat.lt_irrefl n)] at this; rw [if_pos (Nat.lt_succ_self n)]
    by_cases h2 : i < n
    · rw [if_pos h2] at this; rw [if_pos (by omega)]; omega
    · rw [if_neg h2] at this; rw [if_neg (by omega)]; omega
theorem Nx.more {o q : List Nat} {i k n x : Nat} (h : Nx o q i k n) (h1 : n ≠ i) (h2 : n ≠ k) (hx : o[n]? = some x) : Nx o (q ++ [x]) i k (n + 1) := by
  refine ⟨?_, fun p => ?_⟩
  · have := h.len; rw [List.length_append, List.length_singleton]
    have e1 : (if i < n + 1 then 1 else 0) = (if i < n then 1 else 0) := by
      by_cases g : i < n
      · rw [if_pos g, if_pos (by omega)]
      · rw [if_neg g, if_neg (by omega)]
    have e2 : (if k < n + 1 then 1 else 0) = (if k < n then 1 else 0) := by
      by_cases g : k < n
      · rw [if_pos g, if_pos (by omega)]
      · rw [if_neg g, if_neg (by omega)]
    rw [e1, e2]; omega
  · rw [List.mem_append, h.mem p, List.mem_singleton]; constructor
    · rintro (⟨j, g1, g2⟩ | rfl)
      · exact ⟨j, by omega, g2⟩
      · exact ⟨n, by omega, h1, h2, hx⟩
    · rintro ⟨j, g1, g2, g3, g4⟩; rcases Nat.lt_or_ge j n with g | g
      · exact .inl ⟨j, g, g2, g3, g4⟩
      · obtain rfl : j = n := (by omega); rw [hx] at g4; injection g4 with g4
        exact .inr g4.symm
theorem Nx.done {o q : List Nat} {i k g : Nat} (h : Nx o q i k o.length) (hik : k < i) (hi : i < o.length) (h1 : o[i]? = some g) (h2 : o[k]? = some g) : (q ++ [g]).length + 1 = o.length ∧ ∀ p, p ∈ q ++ [g] ↔ p ∈ o := by
  refine ⟨?_, fun p => ?_⟩
  · have := h.len; rw [if_pos hi, if_pos (by omega)] at this; rw [List.length_append, List.length_singleton]; omega
  · rw [List.mem_append, h.mem p, List.mem_singleton]; constructor
    · rintro (⟨j, g1, g2, g3, g4⟩ | rfl)
      · exact List.mem_of_getElem? g4
      · exact List.mem_of_getElem? h1
    · intro hp; obtain ⟨j, hj⟩ := List.mem_iff_getElem?.1 hp
      have hjl : j < o.length := by
        rcases Nat.lt_or_ge j o.length with a | a
        · exact a
        · rw [List.getElem?_eq_none a] at hj; cases hj
      by_cases e1 : j = i
      · subst e1; rw [h1] at hj; injection hj with hj
        exact .inr hj.symm
      · by_cases e2 : j = k
        · subst e2; rw [h2] at hj; injection hj with hj
          exact .inr hj.symm
        · exact .inl ⟨j, hjl, e1, e2, hj⟩
theorem own_base {w : World} {B B' : Nat} {e : TypeId} {size n : Nat} {v : Value} {xs : List Value} (h : w.ownsRow B e size v n xs) (hb : B' ≤ B) : w.ownsRow B' e size v n xs := by
  refine ⟨h.1, ?_⟩; rcases h.2 with h0 | ⟨g, cap, cur, e1, hg, h1⟩
  · exact .inl h0
  · exact .inr ⟨g, cap, cur, e1, Nat.le_trans hb hg, h1⟩
end Go.Proofs.YtgmpipimancnhaaGreatDoor
namespace Go.Proofs.YtgmpipimancnhaaGreatDoor
set_option linter.unusedSimpArgs false
open Go.RowKit
set_option linter.unusedVariables false
end Go.Proofs.YtgmpipimancnhaaGreatDoor
namespace Go.Proofs.YtgmpipimancnhaaGreatDoor
set_option linter.unusedSimpArgs false
open Go.RowKit
set_option linter.unusedVariables false
attribute [local irreducible] FloorRes
end Go.Proofs.YtgmpipimancnhaaGreatDoor
namespace Go.Proofs.YtgmpipimancnhaaGreatDoor
set_option linter.unusedSimpArgs false
open Go.RowKit
set_option linter.unusedVariables false
end Go.Proofs.YtgmpipimancnhaaGreatDoor
namespace Go.Proofs.YtgmpipimancnhaaGreatDoor
set_option linter.unusedSimpArgs false
open Go.RowKit
set_option linter.unusedVariables false
end Go.Proofs.YtgmpipimancnhaaGreatDoor
namespace Go.Proofs.YtgmpipimancnhaaGreatDoor
set_option linter.unusedSimpArgs false
open Go.RowKit
set_option linter.unusedVariables false
theorem TR.reads {w : World} {A : Option Addr} {n : Nat} {l : List (Nat × Int)} (h : TR w A n l) : Reads w w.heap.size 2 A n (l.flatMap fun x => [.int .i64 (x.1 : Int), .int .i64 x.2]) := h.2
theorem TR.of_own {w : World} {base : Nat} {e : TypeId} {v : Value} {n : Nat} {l : List (Nat × Int)} (h : w.ownsRow base e 2 v n (l.flatMap fun x => [.int .i64 (x.1 : Int), .int .i64 x.2])) (hn : l.length = n) : ∃ A c, v = .slice A n c ∧ TR w A n l := by
  have h' := h; rcases h.2 with ⟨rfl, h0⟩ | ⟨g, cap, cur, rfl, _, _, h1, h2, _⟩
  · rw [h0] at h' hn; exact ⟨none, 0, by rw [h0], by rw [h0]; exact ⟨hn, Reads.of_own h'⟩⟩
  · exact ⟨_, cap, rfl, hn, Reads.of_own h⟩
end Go.Proofs.YtgmpipimancnhaaGreatDoor
namespace Go.Proofs.YtgmpipimancnhaaGreatDoor
set_option linter.unusedSimpArgs false
open Go.RowKit
set_option linter.unusedVariables false
end Go.Proofs.YtgmpipimancnhaaGreatDoor
namespace Go.Proofs.YtgmpipimancnhaaGreatDoor
set_option linter.unusedSimpArgs false
open Go.RowKit
set_option linter.unusedVariables false
theorem scaled_snoc (l : List (Nat × Int)) (s : Int) (n : Nat) (k : Int) : scaled (l ++ [(n, k)]) s = scaled l s ++ [(n, k * s)] := by unfold scaled; rw [List.map_append]; rfl
end Go.Proofs.YtgmpipimancnhaaGreatDoor
