/- A pair of numbers as an argument of a law of package ratios. -/
import Derived.Test.YtcmofoggdchofaaDoorRowE
namespace Go.Proofs.YtcmofoggdchofaaDoor
set_option linter.unusedSimpArgs false
open Go.ChangeShapes Go.WideShapes Go.ChangeAt Go.RowKit
set_option linter.unusedVariables false

set_option maxRecDepth 100000 in
theorem open_two {H : Type} {enc : TypeId × Value → H} {W : World} {b : Nat} {spare : Nat → Bool} {held : Bool} {fuel : Nat} {cs : List Value} {x : DataW H × List MemPlace} (h : DataW.trod enc Tryd.prog W b spare held fuel 42 cs = some x) :
    ∃ z0 z1 : Int, cs = [.int .i64 z0, .int .i64 z1] ∧ x.2 = [] := by
  obtain ⟨ys, m, rfl, rfl, hl, hn, hf⟩ := DataW.trod_array Tryd.underlying42 h
  have hc : Tryd.prog.cellsOf 3 = 1 := by kernel_rfl
  have hc2 : Tryd.prog.cellsOf 42 = 2 := by kernel_rfl
  rw [hc2] at hl
  match cs, hl, ys, hn with
  | [c0, c1], _, [y0, y1], _ =>
    have g0 := hf 0 (by omega)
    have g1 := hf 1 (by omega)
    simp [hc] at g0 g1
    obtain ⟨z0, e0, rfl, _⟩ := DataW.trod_int Tryd.underlying3 g0
    obtain ⟨z1, e1, rfl, _⟩ := DataW.trod_int Tryd.underlying3 g1
    simp at e0 e1
    subst e0 e1
    exact ⟨z0, z1, rfl, by simp⟩
theorem okWide_array {P : Program} {w : World} {r : Reach} {base : Nat} {t e : TypeId} {n : Nat} {v : Value} (ht : P.underlying t = some (.array n e)) (h : Value.okWide P w r base t v) : ∃ cs, v = .agg cs ∧ cs.size = P.cellsOf t := by
  simp only [Value.okWide, ht] at h
  obtain ⟨cs, h1, h2, _⟩ := h
  exact ⟨cs, h1, h2⟩
set_option maxRecDepth 100000 in
/-- a pair of numbers as an argument -/
theorem two_arg {H : Type} {enc : TypeId × Value → H} {W : World} {base : Nat} {v : Value} {d : DataW H} {ps : List MemPlace} (hval : Value.okWide Tryd.prog W .any base 42 v) (h : DataW.Trod enc Tryd.prog W 0 (fun _ => true) true 42 v d ps) :
    ∃ x y : Int, v = .agg #[.int .i64 x, .int .i64 y] ∧ ps = [] := by
  obtain ⟨ws, rfl, _⟩ := okWide_array Tryd.underlying42 hval
  obtain ⟨fuel, h⟩ := h
  obtain ⟨z0, z1, c0, p0⟩ := open_two h
  refine ⟨z0, z1, ?_, p0⟩
  simp only [Value.cells] at c0
  obtain ⟨l⟩ := ws
  simp only at c0
  subst c0
  rfl
end Go.Proofs.YtcmofoggdchofaaDoor
