/- A temperament as an argument of a law. (Printed by genrowg.py.) -/
import Derived.Test.YtmcoadmnkelkkaaDoorRowE
import Derived.Test.YtmcoadmnkelkkaaDoorTemI
import Derived.Lib.SmallJoins
namespace Go.Proofs.YtmcoadmnkelkkaaDoor
set_option linter.unusedSimpArgs false
open Go.ChangeShapes Go.WideShapes Go.ChangeAt Go.RowKit
set_option linter.unusedVariables false

set_option maxRecDepth 100000 in
theorem open_part {H : Type} {enc : TypeId × Value → H} {W : World} {b : Nat} {spare : Nat → Bool} {held : Bool} {fuel : Nat} {cs : List Value} {x : DataW H × List MemPlace} (h : DataW.trod enc Tryd.prog W b spare held fuel 23 cs = some x) :
    ∃ z0 z1 : Int, cs = [.int .i64 z0, .int .i64 z1] ∧ x.2 = [] := by
  obtain ⟨y0, y1, n, hx, hl, h0, h1⟩ := trod_struct2 Tryd.underlying23 h
  obtain ⟨z0, c0, rfl, _⟩ := DataW.trod_int Tryd.underlying3 h0
  obtain ⟨z1, c1, rfl, _⟩ := DataW.trod_int Tryd.underlying3 h1
  have hc : Tryd.prog.cellsOf 3 = 1 := by kernel_rfl
  have hc2 : Tryd.prog.cellsOf 23 = 2 := by kernel_rfl
  rw [hc2] at hl
  simp only [hc] at c0 c1
  refine ⟨z0, z1, ?_, ?_⟩
  · match cs, hl with
    | [a0, a1], _ =>
      simp at c0 c1
      rw [c0, c1]
  · simp only [Prod.mk.injEq] at hx
    rw [hx]
    rfl
set_option maxRecDepth 100000 in
set_option maxHeartbeats 1600000 in
theorem open_parts {H : Type} {enc : TypeId × Value → H} {W : World} {b : Nat} {spare : Nat → Bool} {held : Bool} {fuel : Nat} {cs : List Value} {x : DataW H × List MemPlace} (h : DataW.trod enc Tryd.prog W b spare held fuel 24 cs = some x) :
    ∃ n d : Nat → Int, cs = (TV.mk ⟨#[]⟩ false 0 n d).parts.toList ∧ x.2 = [] := by
  obtain ⟨ys, m, rfl, rfl, hl, hn, hf⟩ := DataW.trod_array Tryd.underlying24 h
  have hc : Tryd.prog.cellsOf 23 = 2 := by kernel_rfl
  have hc24 : Tryd.prog.cellsOf 24 = 24 := by kernel_rfl
  rw [hc24] at hl
  match cs, hl, ys, hn with
  | [c0, c1, c2, c3, c4, c5, c6, c7, c8, c9, c10, c11, c12, c13, c14, c15, c16, c17, c18, c19, c20, c21, c22, c23], _, [y0, y1, y2, y3, y4, y5, y6, y7, y8, y9, y10, y11], _ =>
    have g0 := hf 0 (by omega)
    have g1 := hf 1 (by omega)
    have g2 := hf 2 (by omega)
    have g3 := hf 3 (by omega)
    have g4 := hf 4 (by omega)
    have g5 := hf 5 (by omega)
    have g6 := hf 6 (by omega)
    have g7 := hf 7 (by omega)
    have g8 := hf 8 (by omega)
    have g9 := hf 9 (by omega)
    have g10 := hf 10 (by omega)
    have g11 := hf 11 (by omega)
    simp [hc] at g0 g1 g2 g3 g4 g5 g6 g7 g8 g9 g10 g11
    obtain ⟨n0, d0, e0, p0⟩ := open_part g0
    obtain ⟨n1, d1, e1, p1⟩ := open_part g1
    obtain ⟨n2, d2, e2, p2⟩ := open_part g2
    obtain ⟨n3, d3, e3, p3⟩ := open_part g3
    obtain ⟨n4, d4, e4, p4⟩ := open_part g4
    obtain ⟨n5, d5, e5, p5⟩ := open_part g5
    obtain ⟨n6, d6, e6, p6⟩ := open_part g6
    obtain ⟨n7, d7, e7, p7⟩ := open_part g7
    obtain ⟨n8, d8, e8, p8⟩ := open_part g8
    obtain ⟨n9, d9, e9, p9⟩ := open_part g9
    obtain ⟨n10, d10, e10, p10⟩ := open_part g10
    obtain ⟨n11, d11, e11, p11⟩ := open_part g11
    simp at e0 e1 e2 e3 e4 e5 e6 e7 e8 e9 e10 e11
    obtain ⟨rfl, rfl⟩ := e0
    obtain ⟨rfl, rfl⟩ := e1
    obtain ⟨rfl, rfl⟩ := e2
    obtain ⟨rfl, rfl⟩ := e3
    obtain ⟨rfl, rfl⟩ := e4
    obtain ⟨rfl, rfl⟩ := e5
    obtain ⟨rfl, rfl⟩ := e6
    obtain ⟨rfl, rfl⟩ := e7
    obtain ⟨rfl, rfl⟩ := e8
    obtain ⟨rfl, rfl⟩ := e9
    obtain ⟨rfl, rfl⟩ := e10
    obtain ⟨rfl, rfl⟩ := e11
    refine ⟨fun i => if i = 0 then n0 else if i = 1 then n1 else if i = 2 then n2 else if i = 3 then n3 else if i = 4 then n4 else if i = 5 then n5 else if i = 6 then n6 else if i = 7 then n7 else if i = 8 then n8 else if i = 9 then n9 else if i = 10 then n10 else n11, fun i => if i = 0 then d0 else if i = 1 then d1 else if i = 2 then d2 else if i = 3 then d3 else if i = 4 then d4 else if i = 5 then d5 else if i = 6 then d6 else if i = 7 then d7 else if i = 8 then d8 else if i = 9 then d9 else if i = 10 then d10 else d11, rfl, ?_⟩
    simp [p0, p1, p2, p3, p4, p5, p6, p7, p8, p9, p10, p11]
set_option maxRecDepth 100000 in
set_option maxHeartbeats 1600000 in
/-- a temperament as an argument -/
theorem temper_arg {H : Type} {enc : TypeId × Value → H} {W : World} {base : Nat} {v : Value} {d : DataW H} {ps : List MemPlace} (hval : Value.okWide Tryd.prog W .any base 26 v) (h : DataW.Trod enc Tryd.prog W 0 (fun _ => true) true 26 v d ps) :
    ∃ t : TV, v = .agg t.cells ∧ t.nm.size ≤ maxLen ∧ ps = [] := by
  obtain ⟨ws, rfl, _⟩ := okWide_struct Tryd.underlying26 hval
  obtain ⟨fuel, h⟩ := h
  obtain ⟨y0, y1, y2, y3, n, hx, hl, h0, h1, h2, h3⟩ := Go.Joins.trod_struct4 Tryd.underlying26 h
  obtain ⟨s, c0, rfl, hs⟩ := DataW.trod_string Tryd.underlying9 h0
  obtain ⟨b, c1, rfl⟩ := DataW.trod_bool Tryd.underlying4 h1
  obtain ⟨z, c2, rfl, _⟩ := DataW.trod_int Tryd.underlying3 h2
  obtain ⟨nn, dd, c3, p3⟩ := open_parts h3
  have hcs : Tryd.prog.cellsOf 9 = 1 := by kernel_rfl
  have hcb : Tryd.prog.cellsOf 4 = 1 := by kernel_rfl
  have hci : Tryd.prog.cellsOf 3 = 1 := by kernel_rfl
  have hcp : Tryd.prog.cellsOf 24 = 24 := by kernel_rfl
  have hct : Tryd.prog.cellsOf 26 = 27 := by kernel_rfl
  simp only [Value.cells] at hl c0 c1 c2 c3
  rw [hct] at hl
  simp only [hcs, hcb, hci, hcp] at c0 c1 c2 c3
  refine ⟨⟨s, b, z, nn, dd⟩, ?_, hs, ?_⟩
  · obtain ⟨l⟩ := ws
    simp only at hl c0 c1 c2 c3
    match l, hl with
    | a0 :: a1 :: a2 :: r, hl =>
      simp at c0 c1 c2 c3 hl
      subst c0 c1 c2
      have hr : r = (TV.mk ⟨#[]⟩ false 0 nn dd).parts.toList := by
        rw [← c3, List.take_of_length_le (by omega)]
      subst hr
      rfl
  · simp only [Prod.mk.injEq] at hx
    rw [hx.2, p3]
    rfl
theorem wf_byte {z : Int} (h : (Lit.int .u8 z).wf = true) : 0 ≤ z ∧ z < 256 := by
  simp [Lit.wf, IntKind.min, IntKind.max, IntKind.signed, IntKind.bits] at h
  omega
set_option maxRecDepth 100000 in
theorem open_three {H : Type} {enc : TypeId × Value → H} {W : World} {b : Nat} {spare : Nat → Bool} {held : Bool} {fuel : Nat} {cs : List Value} {x : DataW H × List MemPlace} (h : DataW.trod enc Tryd.prog W b spare held fuel 31 cs = some x) :
    ∃ a b c : Nat, cs = [.int .u8 (a : Int), .int .u8 (b : Int), .int .u8 (c : Int)] ∧ x.2 = [] ∧ a < 256 ∧ b < 256 ∧ c < 256 := by
  obtain ⟨ys, m, rfl, rfl, hl, hn, hf⟩ := DataW.trod_array Tryd.underlying31 h
  have hc : Tryd.prog.cellsOf 5 = 1 := by kernel_rfl
  have hc2 : Tryd.prog.cellsOf 31 = 3 := by kernel_rfl
  rw [hc2] at hl
  match cs, hl, ys, hn with
  | [c0, c1, c2], _, [y0, y1, y2], _ =>
    have g0 := hf 0 (by omega)
    have g1 := hf 1 (by omega)
    have g2 := hf 2 (by omega)
    simp [hc] at g0 g1 g2
    obtain ⟨z0, e0, rfl, w0⟩ := DataW.trod_int Tryd.underlying5 g0
    obtain ⟨z1, e1, rfl, w1⟩ := DataW.trod_int Tryd.underlying5 g1
    obtain ⟨z2, e2, rfl, w2⟩ := DataW.trod_int Tryd.underlying5 g2
    simp at e0 e1 e2
    subst e0 e1 e2
    have k0 := wf_byte w0
    have k1 := wf_byte w1
    have k2 := wf_byte w2
    obtain ⟨n0, rfl⟩ := Int.eq_ofNat_of_zero_le k0.1
    obtain ⟨n1, rfl⟩ := Int.eq_ofNat_of_zero_le k1.1
    obtain ⟨n2, rfl⟩ := Int.eq_ofNat_of_zero_le k2.1
    exact ⟨n0, n1, n2, rfl, by simp, by omega, by omega, by omega⟩
theorem okWide_row {P : Program} {w : World} {r : Reach} {base : Nat} {t e : TypeId} {n : Nat} {v : Value} (ht : P.underlying t = some (.array n e)) (h : Value.okWide P w r base t v) : ∃ cs, v = .agg cs ∧ cs.size = P.cellsOf t := by
  simp only [Value.okWide, ht] at h
  obtain ⟨cs, h1, h2, _⟩ := h
  exact ⟨cs, h1, h2⟩
set_option maxRecDepth 100000 in
/-- three bytes as an argument -/
theorem three_arg {H : Type} {enc : TypeId × Value → H} {W : World} {base : Nat} {v : Value} {d : DataW H} {ps : List MemPlace} (hval : Value.okWide Tryd.prog W .any base 31 v) (h : DataW.Trod enc Tryd.prog W 0 (fun _ => true) true 31 v d ps) :
    ∃ a b c : Nat, v = .agg #[.int .u8 (a : Int), .int .u8 (b : Int), .int .u8 (c : Int)] ∧ ps = [] ∧ a < 256 ∧ b < 256 ∧ c < 256 := by
  obtain ⟨ws, rfl, _⟩ := okWide_row Tryd.underlying31 hval
  obtain ⟨fuel, h⟩ := h
  obtain ⟨z0, z1, z2, c0, p0, h0⟩ := open_three h
  refine ⟨z0, z1, z2, ?_, p0, h0⟩
  simp only [Value.cells] at c0
  obtain ⟨l⟩ := ws
  simp only at c0
  subst c0
  rfl
end Go.Proofs.YtmcoadmnkelkkaaDoor
