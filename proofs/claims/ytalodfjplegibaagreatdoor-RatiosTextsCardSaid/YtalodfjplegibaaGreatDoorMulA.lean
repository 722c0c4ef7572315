/- Package ratios: Mul, Div, Pow. -/
import Derived.Test.YtalodfjplegibaaGreatDoorRatZ
namespace Go.Proofs.YtalodfjplegibaaGreatDoor
set_option linter.unusedSimpArgs false
open Go.RowKit
set_option linter.unusedVariables false

set_option maxHeartbeats 3200000 in
set_option maxRecDepth 100000 in
theorem vMul_any (a b : RV) (w : World) : Calls Tryz.prog 29 #[.agg a.cells, .agg b.cells] w fun e w' => OfRes e (joinS a b 1) ∧ Below w.heap.size w w' := by
  have hu := (((Below.refl w.heap.size w).alloc (Nat.le_refl _) (.cells a.cells 24)).alloc (by simp) (.cells b.cells 24)).alloc (by simp; omega) (.cells RVzero.cells 24)
  have X0 := ((Blk.new w 24 a.cells).alloc (.cells b.cells 24)).alloc (.cells RVzero.cells 24)
  have X1 := (Blk.new (w.alloc (.cells a.cells 24)) 24 b.cells).alloc (.cells RVzero.cells 24)
  have X2 := Blk.new ((w.alloc (.cells a.cells 24)).alloc (.cells b.cells 24)) 24 RVzero.cells
  rw [show (w.alloc (.cells a.cells 24)).heap.size = w.heap.size + 1 by simp] at X1
  rw [show ((w.alloc (.cells a.cells 24)).alloc (.cells b.cells 24)).heap.size = w.heap.size + 1 + 1 by simp] at X2
  have hJ := fun W : World => rjoined_any a b (1) (by decide) W
  obtain ⟨⟨r, er⟩, hs⟩ : ∃ s, joinS a b (1) = s := ⟨_, rfl⟩
  rw [hs] at hJ ⊢
  clear hs
  unfold OfRes at hJ
  rw [RVzero_cells] at hu X0 X1 X2
  unfold RV.cells at *
  simp only [] at hJ
  have HJ : Sl _ := ⟨hJ⟩
  have x0 := X0.cell 0
  have x1 := X0.cell 1
  have x2 := X0.cell 2
  have x3 := X0.cell 3
  have x4 := X0.cell 4
  have x5 := X0.cell 5
  have x6 := X0.cell 6
  simp at x0 x1 x2 x3 x4 x5 x6
  have y0 := X1.cell 0
  have y1 := X1.cell 1
  have y2 := X1.cell 2
  have y3 := X1.cell 3
  have y4 := X1.cell 4
  have y5 := X1.cell 5
  have y6 := X1.cell 6
  simp at y0 y1 y2 y3 y4 y5 y6
  have HU : Sl _ := ⟨And.intro hu X2⟩
  clear hu X0 X1 X2 hJ
  go_enter Tryz.func29, Tryz.ntmps29
  go_wp2_with fail
  clear x0 x1 x2 x3 x4 x5 x6 y0 y1 y2 y3 y4 y5 y6
  refine (HJ.out _).mono ?_; rintro e w3 ⟨rfl, hb3⟩
  have hB := HU.out.1.trans (hb3.mono HU.out.1.size)
  have Z := HU.out.2.below hb3 HU.out.2.lt
  have d0 := Z.cell 0
  have d1 := Z.cell 1
  have d2 := Z.cell 2
  have d3 := Z.cell 3
  have d4 := Z.cell 4
  have d5 := Z.cell 5
  have d6 := Z.cell 6
  simp at d0 d1 d2 d3 d4 d5 d6
  have f0 := Z.frozen 0
  have f1 := Z.frozen 1
  have f2 := Z.frozen 2
  have f3 := Z.frozen 3
  have f4 := Z.frozen 4
  have f5 := Z.frozen 5
  have f6 := Z.frozen 6
  have HFIN : Sl _ := ⟨And.intro hB Z⟩
  clear hB Z HJ hb3
  go_wp2_with fail
  refine bodyPost_ret (results_rowR rfl _ _ (w.heap.size + 1 + 1) _ _ _ rfl (HFIN.out.2.seven _ _ _ _ _ _ _) Tryz.underlying24 rfl (by kernel_rfl)) rfl ?_
  exact ⟨rfl, below_seven HFIN.out.1 (by omega) _ _ _ _ _ _ _⟩
end Go.Proofs.YtalodfjplegibaaGreatDoor
