/- What the rows of package mixtures need: arguments that hold a mixture. -/
import Derived.Test.YtkjkbhkcebbjdaaGreatDoorRowM0
import Derived.Test.YtkjkbhkcebbjdaaGreatDoorMyH
import Derived.Deep.Slices
import Derived.Deep.Strs
namespace Go.Proofs.YtkjkbhkcebbjdaaGreatDoor
open Go.ChangeShapes Go.WideShapes Go.ChangeAt Go.RowKit Go.Deep
set_option linter.unusedVariables false
set_option linter.unusedSimpArgs false

set_option maxRecDepth 100000 in
/-- a row of integers -/
theorem ints_trod {H : Type} {enc : TypeId × Value → H} {W : World} {fuel : Nat} {v : Value} {x : DataW H × List MemPlace} (h : DataW.trod enc Tryz.prog W 0 (fun _ => true) true fuel 25 [v] = some x) (hb : ∀ p ∈ x.2, p.block < W.heap.size) :
    ∃ A n c l, v = .slice A n c ∧ II W A n l ∧ (n ≤ c ∧ c ≤ maxLen) ∧ ∀ z ∈ l, i64 z := by
  rcases open_ints Tryz.underlying25 Tryz.underlying3 (by kernel_rfl) h with ⟨hv, _⟩ | ⟨a, len, cap, zs, hv, _, hlc, hcm, hzl, hx, hcell, hwf⟩
  · simp at hv
    exact ⟨none, 0, 0, [], hv, II.nil _ _, ⟨by simp, by decide⟩, by simp⟩
  · simp at hv
    subst hv
    simp only [if_true] at hzl
    rw [hx] at hb
    refine ⟨some a, len, cap, zs.take len, rfl, ⟨by rw [List.length_take]; omega, by simp; omega, fun h0 => ⟨a, rfl, ?_, fun j u hu => ?_⟩⟩, ⟨hlc, hcm⟩, fun z hz => wf_i64 (hwf z (List.mem_of_mem_take hz))⟩
    · exact hb _ (MemPlace.mem_row.2 ⟨0, by omega, rfl⟩)
    · rw [List.getElem?_map] at hu
      rcases Nat.lt_or_ge j len with hj | hj
      · rw [List.getElem?_take_of_lt hj, List.getElem?_eq_getElem (by omega)] at hu
        simp at hu
        subst hu
        rw [hcell j (by omega)]
        have e : zs.getD j 0 = zs[j]'(by omega) := by simp [List.getD, List.getElem?_eq_getElem (show j < zs.length by omega)]
        rw [e]
        rfl
      · rw [List.getElem?_eq_none (by simp; omega)] at hu
        cases hu
set_option maxRecDepth 100000 in
/-- a break among the cells -/
theorem brk_trod {H : Type} {enc : TypeId × Value → H} {W : World} {fuel : Nat} {cs : List Value} {x : DataW H × List MemPlace} (h : DataW.trod enc Tryz.prog W 0 (fun _ => true) true fuel 49 cs = some x) (hb : ∀ p ∈ x.2, p.block < W.heap.size) :
    ∃ b : Bk, cs = b.cells ∧ II W b.A b.n b.l ∧ (b.n ≤ b.c ∧ b.c ≤ maxLen) ∧ i64 b.fr ∧ ∀ z ∈ b.l, i64 z := by
  obtain ⟨y0, y1, n, hx, hl, h0, h1⟩ := trod_struct2 Tryz.underlying49 h
  have c1 : Tryz.prog.cellsOf 3 = 1 := by kernel_rfl
  have c2 : Tryz.prog.cellsOf 25 = 1 := by kernel_rfl
  have c3 : Tryz.prog.cellsOf 49 = 2 := by kernel_rfl
  rw [c3] at hl
  rw [hx] at hb
  match cs, hl with
  | [u0, u1], _ =>
    simp only [c1, c2, List.drop_zero, List.drop_succ_cons, List.take_succ_cons, List.take_zero] at h0 h1
    obtain ⟨k, e0, _, hk⟩ := DataW.trod_int Tryz.underlying3 h0
    obtain ⟨A, n1, c, l, e1, g1, g2, g3⟩ := ints_trod h1 (fun p hp => hb p (by simp [hp]))
    simp at e0
    subst e0 e1
    exact ⟨⟨k, A, n1, c, l⟩, rfl, g1, g2, wf_i64 hk, g3⟩
set_option maxRecDepth 100000 in
/-- a list of breaks -/
theorem brks_trod {H : Type} {enc : TypeId × Value → H} {W : World} {fuel : Nat} {v : Value} {x : DataW H × List MemPlace} (h : DataW.trod enc Tryz.prog W 0 (fun _ => true) true fuel 22 [v] = some x) (hb : ∀ p ∈ x.2, p.block < W.heap.size) :
    ∃ A n c L, v = .slice A n c ∧ MXA W A n c L := by
  rcases open_slice Tryz.underlying22 h with ⟨hv, _⟩ | ⟨a, len, cap, m, n, D, Pl, hv, _, hlc, hcm, hm, hx, hi⟩
  · simp at hv
    exact ⟨none, 0, 0, [], hv, ⟨⟨rfl, Reads.none_, fun b hb => (by cases hb)⟩, ⟨by simp, by decide⟩, fun b hb => (by cases hb), fun b hb => (by cases hb), fun b hb => (by cases hb)⟩⟩
  · simp at hv
    subst hv
    simp only [if_true] at hm
    subst hm
    have c3 : Tryz.prog.cellsOf 49 = 2 := by kernel_rfl
    rw [hx, c3] at hb
    have hel : ∀ i, ∃ b : Bk, i < m → (W.cell? (a.add (i * 2)) = some (.int .i64 b.fr) ∧ W.cell? (a.add (i * 2 + 1)) = some (.slice b.A b.n b.c)) ∧ II W b.A b.n b.l ∧ (b.n ≤ b.c ∧ b.c ≤ maxLen) ∧ i64 b.fr ∧ ∀ z ∈ b.l, i64 z := fun i => by
      by_cases him : i < m
      · obtain ⟨cs', hc, ht⟩ := hi i him
        obtain ⟨b, rfl, g1, g2, g3, g4⟩ := brk_trod ht (fun p hp => hb p (by
          rw [List.mem_append]
          exact .inr (List.mem_flatMap.2 ⟨i, List.mem_range.2 him, hp⟩)))
        rw [c3] at hc
        obtain ⟨_, hcl, hat⟩ := World.cells?_some hc
        have a0 := hat 0 (by decide)
        have a1 := hat 1 (by decide)
        refine ⟨b, fun _ => ⟨⟨?_, ?_⟩, g1, g2, g3, g4⟩⟩
        · have e : (a.add (i * 2)).add 0 = a.add (i * 2) := by rw [add_of_add, Nat.add_zero]
          rw [e] at a0
          rw [a0]; rfl
        · rw [add_of_add] at a1
          rw [a1]; rfl
      · exact ⟨bk0, fun h => absurd h him⟩
    obtain ⟨B, hs⟩ := Classical.axiomOfChoice hel
    refine ⟨some a, len, m, (List.range len).map B, rfl, ?_⟩
    have hget : ∀ {i b}, ((List.range len).map B)[i]? = some b → i < len ∧ b = B i := fun {i b} h => by
      rw [List.getElem?_map] at h
      rcases Nat.lt_or_ge i len with hi | hi
      · rw [List.getElem?_range hi] at h
        exact ⟨hi, by simpa using h.symm⟩
      · rw [List.getElem?_eq_none (by simpa using hi)] at h; cases h
    have hmem : ∀ b ∈ (List.range len).map B, ∃ i, i < len ∧ b = B i := fun b hb => by
      obtain ⟨i, hi⟩ := List.mem_iff_getElem?.1 hb
      exact ⟨i, hget hi⟩
    refine ⟨⟨by simp, ⟨?_, fun h0 => ⟨a, rfl, ?_, fun j u hu => ?_⟩⟩, fun b hb => ?_⟩, ⟨hlc, hcm⟩, fun b hb => ?_, fun b hb => ?_, fun b hb => ?_⟩
    · rw [flatK_len]; simp
    · exact hb _ (List.mem_append_left _ (MemPlace.mem_row.2 ⟨0, by omega, rfl⟩))
    · have hjl : j < len * 2 := by
        rcases Nat.lt_or_ge j (len * 2) with h | h
        · exact h
        · rw [List.getElem?_eq_none (by rw [flatK_len]; simpa using h)] at hu; cases hu
      have hq : ((List.range len).map B)[j / 2]? = some (B (j / 2)) := by
        rw [List.getElem?_map, List.getElem?_range (by omega)]; rfl
      obtain ⟨f1, f2⟩ := flatK _ _ _ hq
      obtain ⟨⟨k1, k2⟩, _⟩ := hs (j / 2) (by omega)
      rcases Nat.mod_two_eq_zero_or_one j with h | h
      · rw [show j / 2 * 2 = j by omega] at f1 k1
        rw [f1] at hu
        injection hu with hu
        rw [k1, hu]
      · rw [show j / 2 * 2 + 1 = j by omega] at f2 k2
        rw [f2] at hu
        injection hu with hu
        rw [k2, hu]
    · obtain ⟨i, h1, rfl⟩ := hmem b hb
      exact (hs i (by omega)).2.1
    · obtain ⟨i, h1, rfl⟩ := hmem b hb
      exact (hs i (by omega)).2.2.2.1
    · obtain ⟨i, h1, rfl⟩ := hmem b hb
      exact (hs i (by omega)).2.2.1
    · obtain ⟨i, h1, rfl⟩ := hmem b hb
      exact (hs i (by omega)).2.2.2.2
set_option maxRecDepth 100000 in
/-- a mixture as an argument -/
theorem mx_arg {H : Type} {enc : TypeId × Value → H} {W : World} {base : Nat} {v : Value} {d : DataW H} {ps : List MemPlace} (hval : Value.okWide Tryz.prog W .any base 24 v) (h : DataW.Trod enc Tryz.prog W 0 (fun _ => true) true 24 v d ps) (hb : ∀ p ∈ ps, p.block < W.heap.size) :
    ∃ (a b : Int) (A : Option Addr) (n c : Nat) (L : List Bk), v = .agg #[.int .i64 a, .int .i64 b, .slice A n c] ∧ MXA W A n c L ∧ i64 a ∧ i64 b := by
  obtain ⟨cs, rfl, hsz⟩ := okWide_struct Tryz.underlying24 hval
  have c7 : Tryz.prog.cellsOf 24 = 3 := by kernel_rfl
  rw [c7] at hsz
  obtain ⟨l⟩ := cs
  match l, hsz with
  | [v0, v1, v2], _ =>
    obtain ⟨fuel, hf⟩ := h
    obtain ⟨y0, y1, y2, n, hx, _, h0, h1, h2⟩ := Go.Deep.trod_struct3 Tryz.underlying24 hf
    have c1 : Tryz.prog.cellsOf 3 = 1 := by kernel_rfl
    have c2 : Tryz.prog.cellsOf 22 = 1 := by kernel_rfl
    simp only [Value.cells, c1, c2, List.drop_zero, List.drop_succ_cons, List.take_succ_cons, List.take_zero] at h0 h1 h2
    simp only [Prod.mk.injEq] at hx
    obtain ⟨_, rfl⟩ := hx
    obtain ⟨a, e0, _, ha⟩ := DataW.trod_int Tryz.underlying3 h0
    obtain ⟨b, e1, _, hb1⟩ := DataW.trod_int Tryz.underlying3 h1
    obtain ⟨A, n1, c, L, e2, hM⟩ := brks_trod h2 (fun p hp => hb p (by simp [hp]))
    simp at e0 e1
    subst e0 e1 e2
    exact ⟨a, b, A, n1, c, L, rfl, hM, wf_i64 ha, wf_i64 hb1⟩
end Go.Proofs.YtkjkbhkcebbjdaaGreatDoor
