/- Arguments of the laws of plans: a task, a list of numbers. -/
import Derived.Test.YtkjkbhkcebbjdaaGreatDoorRowM1
namespace Go.Proofs.YtkjkbhkcebbjdaaGreatDoor
open Go.ChangeShapes Go.WideShapes Go.ChangeAt Go.RowKit Go.Deep
set_option linter.unusedVariables false
set_option linter.unusedSimpArgs false

theorem trod_struct5 {H : Type} {enc : TypeId × Value → H} {P : Program} {w : World} {base : Nat} {spare : Nat → Bool} {held : Bool} {t : TypeId} {f0 f1 f2 f3 f4 : Field} {fuel : Nat} {cs : List Value} {x : DataW H × List MemPlace} (ht : P.underlying t = some (.struct #[f0, f1, f2, f3, f4])) (h : DataW.trod enc P w base spare held fuel t cs = some x) :
    ∃ y0 y1 y2 y3 y4 n, x = (.agg [y0.1, y1.1, y2.1, y3.1, y4.1], y0.2 ++ (y1.2 ++ (y2.2 ++ (y3.2 ++ y4.2)))) ∧ cs.length = P.cellsOf t ∧ DataW.trod enc P w base spare held n f0.type ((cs.drop f0.offset).take (P.cellsOf f0.type)) = some y0 ∧
      DataW.trod enc P w base spare held n f1.type ((cs.drop f1.offset).take (P.cellsOf f1.type)) = some y1 ∧ DataW.trod enc P w base spare held n f2.type ((cs.drop f2.offset).take (P.cellsOf f2.type)) = some y2 ∧
      DataW.trod enc P w base spare held n f3.type ((cs.drop f3.offset).take (P.cellsOf f3.type)) = some y3 ∧ DataW.trod enc P w base spare held n f4.type ((cs.drop f4.offset).take (P.cellsOf f4.type)) = some y4 := by
  obtain ⟨xs, n, _, rfl, hl, hlen, hf⟩ := DataW.trod_struct ht h
  match xs, hlen with
  | [y0, y1, y2, y3, y4], _ => exact ⟨y0, y1, y2, y3, y4, n, by simp, hl, by simpa using hf 0 f0 rfl, by simpa using hf 1 f1 rfl, by simpa using hf 2 f2 rfl, by simpa using hf 3 f3 rfl, by simpa using hf 4 f4 rfl⟩
set_option maxRecDepth 100000 in
/-- a list of numbers as an argument -/
theorem ints_arg {H : Type} {enc : TypeId × Value → H} {W : World} {base : Nat} {v : Value} {d : DataW H} {ps : List MemPlace} (hval : Value.okWide Tryz.prog W .any base 25 v) (h : DataW.Trod enc Tryz.prog W 0 (fun _ => true) true 25 v d ps) (hb : ∀ p ∈ ps, p.block < W.heap.size) :
    ∃ A n c l, v = .slice A n c ∧ II W A n l ∧ (n ≤ c ∧ c ≤ maxLen) ∧ ∀ z ∈ l, i64 z := by
  obtain ⟨a0, len0, cap0, rfl⟩ := okWide_slice Tryz.underlying25 hval
  obtain ⟨fuel, h⟩ := h
  exact ints_trod h hb
set_option maxRecDepth 100000 in
/-- a task as an argument -/
theorem task_arg {H : Type} {enc : TypeId × Value → H} {W : World} {base : Nat} {v : Value} {d : DataW H} {ps : List MemPlace} (hval : Value.okWide Tryz.prog W .any base 34 v) (h : DataW.Trod enc Tryz.prog W 0 (fun _ => true) true 34 v d ps) (hb : ∀ p ∈ ps, p.block < W.heap.size) :
    ∃ (f u : Int) (A : Option Addr) (n c : Nat) (l : List Int) (most early : Int), v = .agg #[.int .i64 f, .int .i64 u, .slice A n c, .int .i64 most, .int .i64 early] ∧ II W A n l ∧ (n ≤ c ∧ c ≤ maxLen) ∧ (∀ z ∈ l, i64 z) ∧ i64 f ∧ i64 u ∧ i64 most ∧ i64 early := by
  obtain ⟨cs, rfl, hsz⟩ := okWide_struct Tryz.underlying34 hval
  have c7 : Tryz.prog.cellsOf 34 = 5 := by kernel_rfl
  rw [c7] at hsz
  obtain ⟨l⟩ := cs
  match l, hsz with
  | [v0, v1, v2, v3, v4], _ =>
    obtain ⟨fuel, hf⟩ := h
    obtain ⟨y0, y1, y2, y3, y4, n, hx, _, h0, h1, h2, h3, h4⟩ := trod_struct5 Tryz.underlying34 hf
    have c1 : Tryz.prog.cellsOf 3 = 1 := by kernel_rfl
    have c2 : Tryz.prog.cellsOf 25 = 1 := by kernel_rfl
    simp only [Value.cells, c1, c2, List.drop_zero, List.drop_succ_cons, List.take_succ_cons, List.take_zero] at h0 h1 h2 h3 h4
    simp only [Prod.mk.injEq] at hx
    obtain ⟨_, rfl⟩ := hx
    obtain ⟨f, e0, _, hf0⟩ := DataW.trod_int Tryz.underlying3 h0
    obtain ⟨u, e1, _, hu0⟩ := DataW.trod_int Tryz.underlying3 h1
    obtain ⟨A, n1, c, l, e2, g1, g2, g3⟩ := ints_trod h2 (fun p hp => hb p (by simp [hp]))
    obtain ⟨most, e3, _, hm0⟩ := DataW.trod_int Tryz.underlying3 h3
    obtain ⟨early, e4, _, he0⟩ := DataW.trod_int Tryz.underlying3 h4
    simp at e0 e1 e3 e4
    subst e0 e1 e2 e3 e4
    exact ⟨f, u, A, n1, c, l, most, early, rfl, g1, g2, g3, wf_i64 hf0, wf_i64 hu0, wf_i64 hm0, wf_i64 he0⟩
end Go.Proofs.YtkjkbhkcebbjdaaGreatDoor
