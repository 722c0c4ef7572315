/- Fractions as arguments: what the readings of the law's Quos say. -/
import Derived.Test.YtgjbaamhpapeeaaGreatDoorRowA
import Derived.Test.YtgjbaamhpapeeaaGreatDoorQuoC
import Derived.Deep.Strs
namespace Go.Proofs.YtgjbaamhpapeeaaGreatDoor
open Go.ChangeShapes Go.WideShapes Go.ChangeAt Go.RowKit
set_option linter.unusedVariables false
set_option linter.unusedSimpArgs false

theorem list7 {α : Type} {l : List α} (h : l.length = 7) : ∃ a b c d e f g, l = [a, b, c, d, e, f, g] := by
  match l, h with
  | [a, b, c, d, e, f, g], _ => exact ⟨_, _, _, _, _, _, _, rfl⟩
set_option maxRecDepth 100000 in
theorem nat_trod {H : Type} {enc : TypeId × Value → H} {W : World} {fuel : Nat} {v : Value} {x : DataW H × List MemPlace} (h : DataW.trod enc Tryz.prog W 0 (fun _ => true) true fuel 23 [v] = some x) (hb : ∀ p ∈ x.2, p.block < W.heap.size) :
    ∃ A n c l, v = .slice A n c ∧ Arg W A n c l := by
  rcases open_ints Tryz.underlying23 Tryz.underlying49 (by kernel_rfl) h with ⟨hv, _⟩ | ⟨a, len, cap, zs, hv, _, hlc, hcm, hzl, hx, hcell, hwf⟩
  · simp at hv
    exact ⟨none, 0, 0, [], hv, U_nil _ _, by simp, by decide⟩
  · simp at hv
    subst hv
    simp only [if_true] at hzl
    rw [hx] at hb
    refine ⟨some a, len, cap, (zs.take len).map Int.toNat, rfl, ⟨⟨by simp; omega, fun h0 => ⟨a, rfl, ?_, fun j u hu => ?_⟩⟩, fun x hx => ?_⟩, hlc, hcm⟩
    · exact hb _ (MemPlace.mem_row.2 ⟨0, by omega, rfl⟩)
    · rw [List.map_map, List.getElem?_map] at hu
      rcases Nat.lt_or_ge j len with hj | hj
      · rw [List.getElem?_take_of_lt hj, List.getElem?_eq_getElem (by omega)] at hu
        simp at hu
        subst hu
        rw [hcell j (by omega)]
        have hw := wf_u32 (hwf (zs[j]'(by omega)) (List.getElem_mem _))
        have e : zs.getD j 0 = zs[j]'(by omega) := by simp [List.getD, List.getElem?_eq_getElem (show j < zs.length by omega)]
        rw [e]
        simp only [lv]
        rw [Int.toNat_of_nonneg hw.1]
      · rw [List.getElem?_eq_none (by simp; omega)] at hu
        cases hu
    · obtain ⟨z, hz, rfl⟩ := List.mem_map.1 hx
      have hw := wf_u32 (hwf z (List.mem_of_mem_take hz))
      unfold LB; omega
set_option maxRecDepth 100000 in
/-- a fraction among the cells -/
theorem quo_trod {H : Type} {enc : TypeId × Value → H} {W : World} {fuel : Nat} {v0 v1 v2 : Value} {x : DataW H × List MemPlace} (h : DataW.trod enc Tryz.prog W 0 (fun _ => true) true fuel 25 [v0, v1, v2] = some x) (hb : ∀ p ∈ x.2, p.block < W.heap.size) :
    ∃ q : QV, v0 = .bool q.neg ∧ v1 = .slice q.A q.n q.c ∧ v2 = .slice q.B q.m q.d ∧ q.ok W := by
  obtain ⟨y0, y1, y2, n, hx, _, h0, h1, h2⟩ := Go.Deep.trod_struct3 Tryz.underlying25 h
  have c1 : Tryz.prog.cellsOf 4 = 1 := by kernel_rfl
  have c2 : Tryz.prog.cellsOf 23 = 1 := by kernel_rfl
  simp only [c1, c2, List.drop_zero, List.drop_succ_cons, List.take_succ_cons, List.take_zero] at h0 h1 h2
  rw [hx] at hb
  obtain ⟨ng, hn, _⟩ := DataW.trod_bool Tryz.underlying4 h0
  obtain ⟨A, n1, c, la, e1, g1⟩ := nat_trod h1 (fun p hp => hb p (by simp [hp]))
  obtain ⟨B, m1, d, lb, e2, g2⟩ := nat_trod h2 (fun p hp => hb p (by simp [hp]))
  simp at hn
  exact ⟨⟨ng, A, n1, c, B, m1, d, la, lb⟩, hn, e1, e2, g1, g2⟩
set_option maxRecDepth 100000 in
/-- the law's Quos as an argument -/
theorem quos_arg {H : Type} {enc : TypeId × Value → H} {W : World} {base : Nat} {v : Value} {d : DataW H} {ps : List MemPlace} (hval : Value.okWide Tryz.prog W .any base 27 v) (h : DataW.Trod enc Tryz.prog W 0 (fun _ => true) true 27 v d ps) (hb : ∀ p ∈ ps, p.block < W.heap.size) :
    ∃ (p q : QV) (k : Int), v = .agg #[.bool p.neg, .slice p.A p.n p.c, .slice p.B p.m p.d, .bool q.neg, .slice q.A q.n q.c, .slice q.B q.m q.d, .int .i64 k] ∧ p.ok W ∧ q.ok W ∧ -9223372036854775808 ≤ k ∧ k < 9223372036854775808 := by
  obtain ⟨cs, rfl, hsz⟩ := okWide_struct Tryz.underlying27 hval
  have c7 : Tryz.prog.cellsOf 27 = 7 := by kernel_rfl
  rw [c7] at hsz
  obtain ⟨l⟩ := cs
  obtain ⟨v0, v1, v2, v3, v4, v5, v6, rfl⟩ := list7 (l := l) (by simpa using hsz)
  obtain ⟨fuel, hf⟩ := h
  obtain ⟨y0, y1, y2, n, hx, _, h0, h1, h2⟩ := Go.Deep.trod_struct3 Tryz.underlying27 hf
  have c3 : Tryz.prog.cellsOf 25 = 3 := by kernel_rfl
  have c1 : Tryz.prog.cellsOf 3 = 1 := by kernel_rfl
  simp only [Value.cells, c3, c1, List.drop_zero, List.drop_succ_cons, List.take_succ_cons, List.take_zero] at h0 h1 h2
  simp only [Prod.mk.injEq] at hx
  obtain ⟨_, rfl⟩ := hx
  obtain ⟨p, e0, e1, e2, hp⟩ := quo_trod h0 (fun x hx => hb x (by simp [hx]))
  obtain ⟨q, e3, e4, e5, hq⟩ := quo_trod h1 (fun x hx => hb x (by simp [hx]))
  obtain ⟨k, e6, _, hk⟩ := DataW.trod_int Tryz.underlying3 h2
  simp at e6
  have hk2 := wf_i64 hk
  subst e0 e1 e2 e3 e4 e5 e6
  exact ⟨p, q, k, rfl, hp, hq, hk2.1, hk2.2⟩
end Go.Proofs.YtgjbaamhpapeeaaGreatDoor
