/- Chapter 04: the law RatiosMuls: the walk. (Printed by genmuls.py.) -/
import Derived.Test.YtcmofoggdchofaaDoorMulE
import Derived.Test.YtcmofoggdchofaaDoorRatN
import Derived.Test.YtcmofoggdchofaaDoorRatU
namespace Go.Proofs.YtcmofoggdchofaaDoor
set_option linter.unusedSimpArgs false
open Go.RowKit
set_option linter.unusedVariables false

theorem Blk.far7 {w : World} {g g' : Nat} {t : TypeId} {cs : Array Value} (h : Blk w g t cs) (hg : g ≠ g') (y0 y1 y2 y3 y4 y5 y6 : Value) :
    Blk (((((((w.setCell ⟨g', 0, none⟩ y0).setCell ⟨g', 1, none⟩ y1).setCell ⟨g', 2, none⟩ y2).setCell ⟨g', 3, none⟩ y3).setCell ⟨g', 4, none⟩ y4).setCell ⟨g', 5, none⟩ y5).setCell ⟨g', 6, none⟩ y6) g t cs :=
  ((((((h.far (p := ⟨g', 0, none⟩) hg y0).far (p := ⟨g', 1, none⟩) hg y1).far (p := ⟨g', 2, none⟩) hg y2).far (p := ⟨g', 3, none⟩) hg y3).far (p := ⟨g', 4, none⟩) hg y4).far (p := ⟨g', 5, none⟩) hg y5).far (p := ⟨g', 6, none⟩) hg y6
set_option maxHeartbeats 6400000 in
set_option maxRecDepth 100000 in
theorem ratiosMuls_any (a b : RV) (x y : Int) (w : World) (hT : PrT w) :
    Calls Tryd.prog 5 #[.agg a.cells, .agg b.cells, .agg #[.int .i64 x, .int .i64 y]] w fun e w' => e = .returned (.bool true) ∧ Below w.heap.size w w' := by
  have hu := (((Below.refl w.heap.size w).alloc (Nat.le_refl _) (.cells a.cells 24)).alloc (by simp) (.cells b.cells 24)).alloc (by simp; omega) (.cells #[.int .i64 x, .int .i64 y] 42)
  have X0 := ((Blk.new w 24 a.cells).alloc (.cells b.cells 24)).alloc (.cells #[.int .i64 x, .int .i64 y] 42)
  have X1 := (Blk.new (w.alloc (.cells a.cells 24)) 24 b.cells).alloc (.cells #[.int .i64 x, .int .i64 y] 42)
  have X2 := Blk.new ((w.alloc (.cells a.cells 24)).alloc (.cells b.cells 24)) 42 #[.int .i64 x, .int .i64 y]
  rw [show (w.alloc (.cells a.cells 24)).heap.size = w.heap.size + 1 by simp] at X1
  rw [show ((w.alloc (.cells a.cells 24)).alloc (.cells b.cells 24)).heap.size = w.heap.size + 1 + 1 by simp] at X2
  have H1 := fun W : World => vMul_any a b W
  have H2 := fun W : World => r4Mul_any a b W
  have H3 := fun W : World => vDiv_any a b W
  have H4 := fun W : World => r4Div_any a b W
  have H5 := fun W : World => vPow_any a x y W
  have H6 := fun W : World => r4Pow_any a x y W
  obtain ⟨⟨q, er⟩, hq⟩ : ∃ s, joinS a b 1 = s := ⟨_, rfl⟩
  obtain ⟨⟨p, ep⟩, hp⟩ : ∃ s, joinS a b (-1) = s := ⟨_, rfl⟩
  obtain ⟨⟨r, es⟩, hr⟩ : ∃ s, powS a x y = s := ⟨_, rfl⟩
  rw [hq] at H1 H2
  rw [hp] at H3 H4
  rw [hr] at H5 H6
  clear hq hp hr
  unfold OfRes at H1 H2 H3 H4 H5 H6
  unfold RV.cells at *
  simp only [] at H1 H2 H3 H4 H5 H6
  have HA : Sl _ := ⟨And.intro H1 (And.intro H2 (And.intro H3 (And.intro H4 (And.intro H5 H6))))⟩
  have HU : Sl _ := ⟨And.intro hu (And.intro X0 (And.intro X1 X2))⟩
  have HT : Sl _ := ⟨hT⟩
  have x0 := X0.cell 0
  have x1 := X0.cell 1
  have x2 := X0.cell 2
  have x3 := X0.cell 3
  have x4 := X0.cell 4
  have x5 := X0.cell 5
  have x6 := X0.cell 6
  simp at x0 x1 x2 x3 x4 x5 x6
  have y0 := X1.cell 0
  have y1 := X1.cell 1
  have y2 := X1.cell 2
  have y3 := X1.cell 3
  have y4 := X1.cell 4
  have y5 := X1.cell 5
  have y6 := X1.cell 6
  simp at y0 y1 y2 y3 y4 y5 y6
  clear H1 H2 H3 H4 H5 H6 hu X0 X1 X2 hT
  go_enter Tryd.func5, Tryd.ntmps5
  go_wp2_with fail
  clear x0 x1 x2 x3 x4 x5 x6 y0 y1 y2 y3 y4 y5 y6
  generalize ((w.alloc (.cells #[.int .i64 a.n0, .int .i64 a.n1, .int .i64 a.n2, .int .i64 a.n3, .int .i64 a.n4, .int .i64 a.n5, .int .i64 a.d] 24)).alloc (.cells #[.int .i64 b.n0, .int .i64 b.n1, .int .i64 b.n2, .int .i64 b.n3, .int .i64 b.n4, .int .i64 b.n5, .int .i64 b.d] 24)).alloc (.cells #[.int .i64 x, .int .i64 y] 42) = w0 at *
  refine (HA.out.1 w0).mono ?_; rintro e w1 ⟨rfl, hb1⟩
  have hB1 := HU.out.1.trans (hb1.mono HU.out.1.size)
  have A1 := (HU.out.2.1.below hb1 HU.out.2.1.lt).alloc (.cells #[.int .i64 q.n0, .int .i64 q.n1, .int .i64 q.n2, .int .i64 q.n3, .int .i64 q.n4, .int .i64 q.n5, .int .i64 q.d] 24)
  have B1 := (HU.out.2.2.1.below hb1 HU.out.2.2.1.lt).alloc (.cells #[.int .i64 q.n0, .int .i64 q.n1, .int .i64 q.n2, .int .i64 q.n3, .int .i64 q.n4, .int .i64 q.n5, .int .i64 q.d] 24)
  have P1 := (HU.out.2.2.2.below hb1 HU.out.2.2.2.lt).alloc (.cells #[.int .i64 q.n0, .int .i64 q.n1, .int .i64 q.n2, .int .i64 q.n3, .int .i64 q.n4, .int .i64 q.n5, .int .i64 q.d] 24)
  have Y1 := Blk.new w1 24 #[.int .i64 q.n0, .int .i64 q.n1, .int .i64 q.n2, .int .i64 q.n3, .int .i64 q.n4, .int .i64 q.n5, .int .i64 q.d]
  have hB2 := hB1.alloc hB1.size (.cells #[.int .i64 q.n0, .int .i64 q.n1, .int .i64 q.n2, .int .i64 q.n3, .int .i64 q.n4, .int .i64 q.n5, .int .i64 q.d] 24)
  have hg7 := (HU.out.2.2.2.below hb1 HU.out.2.2.2.lt).lt
  have H2 : Sl _ := ⟨And.intro hB2 (And.intro A1 (And.intro B1 (And.intro P1 Y1)))⟩
  clear HU hb1 hB1 A1 B1 P1 Y1 hB2
  go_upto_region 2 with (fail)
  generalize hg7e : w1.heap.size = g7 at *
  generalize w1.alloc (.cells #[.int .i64 q.n0, .int .i64 q.n1, .int .i64 q.n2, .int .i64 q.n3, .int .i64 q.n4, .int .i64 q.n5, .int .i64 q.d] 24) = w2 at *
  clear hg7e
  have x0 := H2.out.2.1.cell 0
  have x1 := H2.out.2.1.cell 1
  have x2 := H2.out.2.1.cell 2
  have x3 := H2.out.2.1.cell 3
  have x4 := H2.out.2.1.cell 4
  have x5 := H2.out.2.1.cell 5
  have x6 := H2.out.2.1.cell 6
  simp at x0 x1 x2 x3 x4 x5 x6
  have y0 := H2.out.2.2.1.cell 0
  have y1 := H2.out.2.2.1.cell 1
  have y2 := H2.out.2.2.1.cell 2
  have y3 := H2.out.2.2.1.cell 3
  have y4 := H2.out.2.2.1.cell 4
  have y5 := H2.out.2.2.1.cell 5
  have y6 := H2.out.2.2.1.cell 6
  simp at y0 y1 y2 y3 y4 y5 y6
  go_wp2_with fail
  clear x0 x1 x2 x3 x4 x5 x6 y0 y1 y2 y3 y4 y5 y6
  refine (HA.out.2.1 w2).mono ?_; rintro e w3 ⟨rfl, hb3⟩
  have hB3 := H2.out.1.trans (hb3.mono H2.out.1.size)
  have A3 := (H2.out.2.1.below hb3 H2.out.2.1.lt).alloc (.cells #[.int .i64 q.n0, .int .i64 q.n1, .int .i64 q.n2, .int .i64 q.n3, .int .i64 q.n4, .int .i64 q.n5, .int .i64 q.d] 24)
  have B3 := (H2.out.2.2.1.below hb3 H2.out.2.2.1.lt).alloc (.cells #[.int .i64 q.n0, .int .i64 q.n1, .int .i64 q.n2, .int .i64 q.n3, .int .i64 q.n4, .int .i64 q.n5, .int .i64 q.d] 24)
  have P3 := (H2.out.2.2.2.1.below hb3 H2.out.2.2.2.1.lt).alloc (.cells #[.int .i64 q.n0, .int .i64 q.n1, .int .i64 q.n2, .int .i64 q.n3, .int .i64 q.n4, .int .i64 q.n5, .int .i64 q.d] 24)
  have Y3 := (H2.out.2.2.2.2.below hb3 H2.out.2.2.2.2.lt).alloc (.cells #[.int .i64 q.n0, .int .i64 q.n1, .int .i64 q.n2, .int .i64 q.n3, .int .i64 q.n4, .int .i64 q.n5, .int .i64 q.d] 24)
  have Z3 := Blk.new w3 24 #[.int .i64 q.n0, .int .i64 q.n1, .int .i64 q.n2, .int .i64 q.n3, .int .i64 q.n4, .int .i64 q.n5, .int .i64 q.d]
  have hB4 := hB3.alloc hB3.size (.cells #[.int .i64 q.n0, .int .i64 q.n1, .int .i64 q.n2, .int .i64 q.n3, .int .i64 q.n4, .int .i64 q.n5, .int .i64 q.d] 24)
  have hg9 := (H2.out.2.2.2.2.below hb3 H2.out.2.2.2.2.lt).lt
  have H4 : Sl _ := ⟨And.intro hB4 (And.intro A3 (And.intro B3 (And.intro P3 (And.intro Y3 Z3))))⟩
  clear H2 hb3 hB3 A3 B3 P3 Y3 Z3 hB4
  go_upto_region 3 with (fail)
  generalize hg9e : w3.heap.size = g9 at *
  generalize w3.alloc (.cells #[.int .i64 q.n0, .int .i64 q.n1, .int .i64 q.n2, .int .i64 q.n3, .int .i64 q.n4, .int .i64 q.n5, .int .i64 q.d] 24) = w4 at *
  clear hg9e
  have HG : Sl _ := ⟨And.intro hg7 hg9⟩
  clear hg7 hg9
  have heq := fun W : World => equal6 W q.n0 q.n1 q.n2 q.n3 q.n4 q.n5
  have x0 := H4.out.2.1.cell 0
  have x1 := H4.out.2.1.cell 1
  have x2 := H4.out.2.1.cell 2
  have x3 := H4.out.2.1.cell 3
  have x4 := H4.out.2.1.cell 4
  have x5 := H4.out.2.1.cell 5
  have x6 := H4.out.2.1.cell 6
  simp at x0 x1 x2 x3 x4 x5 x6
  have y0 := H4.out.2.2.1.cell 0
  have y1 := H4.out.2.2.1.cell 1
  have y2 := H4.out.2.2.1.cell 2
  have y3 := H4.out.2.2.1.cell 3
  have y4 := H4.out.2.2.1.cell 4
  have y5 := H4.out.2.2.1.cell 5
  have y6 := H4.out.2.2.1.cell 6
  simp at y0 y1 y2 y3 y4 y5 y6
  have c0 := H4.out.2.2.2.2.1.cell 0
  have c1 := H4.out.2.2.2.2.1.cell 1
  have c2 := H4.out.2.2.2.2.1.cell 2
  have c3 := H4.out.2.2.2.2.1.cell 3
  have c4 := H4.out.2.2.2.2.1.cell 4
  have c5 := H4.out.2.2.2.2.1.cell 5
  have c6 := H4.out.2.2.2.2.1.cell 6
  simp at c0 c1 c2 c3 c4 c5 c6
  have d0 := H4.out.2.2.2.2.2.cell 0
  have d1 := H4.out.2.2.2.2.2.cell 1
  have d2 := H4.out.2.2.2.2.2.cell 2
  have d3 := H4.out.2.2.2.2.2.cell 3
  have d4 := H4.out.2.2.2.2.2.cell 4
  have d5 := H4.out.2.2.2.2.2.cell 5
  have d6 := H4.out.2.2.2.2.2.cell 6
  simp at d0 d1 d2 d3 d4 d5 d6
  go_wp2_with fail
  clear heq
  clear x0 x1 x2 x3 x4 x5 x6 y0 y1 y2 y3 y4 y5 y6 c0 c1 c2 c3 c4 c5 c6 d0 d1 d2 d3 d4 d5 d6
  refine (HA.out.2.2.1 w4).mono ?_; rintro e v5 ⟨rfl, hb⟩
  have hB := H4.out.1.trans (hb.mono H4.out.1.size)
  have Ab := H4.out.2.1.below hb H4.out.2.1.lt
  have Bb := H4.out.2.2.1.below hb H4.out.2.2.1.lt
  have Pb := H4.out.2.2.2.1.below hb H4.out.2.2.2.1.lt
  have Cb := H4.out.2.2.2.2.1.below hb H4.out.2.2.2.2.1.lt
  have Db := H4.out.2.2.2.2.2.below hb H4.out.2.2.2.2.2.lt
  have d0 := Cb.cell 0
  have d1 := Cb.cell 1
  have d2 := Cb.cell 2
  have d3 := Cb.cell 3
  have d4 := Cb.cell 4
  have d5 := Cb.cell 5
  have d6 := Cb.cell 6
  simp at d0 d1 d2 d3 d4 d5 d6
  have f0 := Cb.frozen 0
  have f1 := Cb.frozen 1
  have f2 := Cb.frozen 2
  have f3 := Cb.frozen 3
  have f4 := Cb.frozen 4
  have f5 := Cb.frozen 5
  have f6 := Cb.frozen 6
  have H5 : Sl _ := ⟨And.intro (below_seven hB (g := g7) (by have := HG.out.1; have := HG.out.2; omega) (.int .i64 p.n0) (.int .i64 p.n1) (.int .i64 p.n2) (.int .i64 p.n3) (.int .i64 p.n4) (.int .i64 p.n5) (.int .i64 p.d)) (And.intro (Ab.far7 (g' := g7) (by have := HG.out.1; have := HG.out.2; omega) (.int .i64 p.n0) (.int .i64 p.n1) (.int .i64 p.n2) (.int .i64 p.n3) (.int .i64 p.n4) (.int .i64 p.n5) (.int .i64 p.d)) (And.intro (Bb.far7 (g' := g7) (by have := HG.out.1; have := HG.out.2; omega) (.int .i64 p.n0) (.int .i64 p.n1) (.int .i64 p.n2) (.int .i64 p.n3) (.int .i64 p.n4) (.int .i64 p.n5) (.int .i64 p.d)) (And.intro (Pb.far7 (g' := g7) (by have := HG.out.1; have := HG.out.2; omega) (.int .i64 p.n0) (.int .i64 p.n1) (.int .i64 p.n2) (.int .i64 p.n3) (.int .i64 p.n4) (.int .i64 p.n5) (.int .i64 p.d)) (And.intro (Cb.seven (.int .i64 p.n0) (.int .i64 p.n1) (.int .i64 p.n2) (.int .i64 p.n3) (.int .i64 p.n4) (.int .i64 p.n5) (.int .i64 p.d)) (Db.far7 (g' := g7) (by have := HG.out.1; have := HG.out.2; omega) (.int .i64 p.n0) (.int .i64 p.n1) (.int .i64 p.n2) (.int .i64 p.n3) (.int .i64 p.n4) (.int .i64 p.n5) (.int .i64 p.d))))))⟩
  clear hB Ab Bb Pb Cb Db hb H4
  go_upto_region 6 with (fail)
  generalize (((((((v5).setCell ⟨g7, 0, none⟩ (.int .i64 p.n0)).setCell ⟨g7, 1, none⟩ (.int .i64 p.n1)).setCell ⟨g7, 2, none⟩ (.int .i64 p.n2)).setCell ⟨g7, 3, none⟩ (.int .i64 p.n3)).setCell ⟨g7, 4, none⟩ (.int .i64 p.n4)).setCell ⟨g7, 5, none⟩ (.int .i64 p.n5)).setCell ⟨g7, 6, none⟩ (.int .i64 p.d) = u5 at *
  clear d0 d1 d2 d3 d4 d5 d6 f0 f1 f2 f3 f4 f5 f6
  have x0 := H5.out.2.1.cell 0
  have x1 := H5.out.2.1.cell 1
  have x2 := H5.out.2.1.cell 2
  have x3 := H5.out.2.1.cell 3
  have x4 := H5.out.2.1.cell 4
  have x5 := H5.out.2.1.cell 5
  have x6 := H5.out.2.1.cell 6
  simp at x0 x1 x2 x3 x4 x5 x6
  have y0 := H5.out.2.2.1.cell 0
  have y1 := H5.out.2.2.1.cell 1
  have y2 := H5.out.2.2.1.cell 2
  have y3 := H5.out.2.2.1.cell 3
  have y4 := H5.out.2.2.1.cell 4
  have y5 := H5.out.2.2.1.cell 5
  have y6 := H5.out.2.2.1.cell 6
  simp at y0 y1 y2 y3 y4 y5 y6
  go_wp2_with fail
  clear x0 x1 x2 x3 x4 x5 x6 y0 y1 y2 y3 y4 y5 y6
  refine (HA.out.2.2.2.1 u5).mono ?_; rintro e v6 ⟨rfl, hb⟩
  have hB := H5.out.1.trans (hb.mono H5.out.1.size)
  have Ab := H5.out.2.1.below hb H5.out.2.1.lt
  have Bb := H5.out.2.2.1.below hb H5.out.2.2.1.lt
  have Pb := H5.out.2.2.2.1.below hb H5.out.2.2.2.1.lt
  have Cb := H5.out.2.2.2.2.1.below hb H5.out.2.2.2.2.1.lt
  have Db := H5.out.2.2.2.2.2.below hb H5.out.2.2.2.2.2.lt
  have d0 := Db.cell 0
  have d1 := Db.cell 1
  have d2 := Db.cell 2
  have d3 := Db.cell 3
  have d4 := Db.cell 4
  have d5 := Db.cell 5
  have d6 := Db.cell 6
  simp at d0 d1 d2 d3 d4 d5 d6
  have f0 := Db.frozen 0
  have f1 := Db.frozen 1
  have f2 := Db.frozen 2
  have f3 := Db.frozen 3
  have f4 := Db.frozen 4
  have f5 := Db.frozen 5
  have f6 := Db.frozen 6
  have H6 : Sl _ := ⟨And.intro (below_seven hB (g := g9) (by have := HG.out.1; have := HG.out.2; omega) (.int .i64 p.n0) (.int .i64 p.n1) (.int .i64 p.n2) (.int .i64 p.n3) (.int .i64 p.n4) (.int .i64 p.n5) (.int .i64 p.d)) (And.intro (Ab.far7 (g' := g9) (by have := HG.out.1; have := HG.out.2; omega) (.int .i64 p.n0) (.int .i64 p.n1) (.int .i64 p.n2) (.int .i64 p.n3) (.int .i64 p.n4) (.int .i64 p.n5) (.int .i64 p.d)) (And.intro (Bb.far7 (g' := g9) (by have := HG.out.1; have := HG.out.2; omega) (.int .i64 p.n0) (.int .i64 p.n1) (.int .i64 p.n2) (.int .i64 p.n3) (.int .i64 p.n4) (.int .i64 p.n5) (.int .i64 p.d)) (And.intro (Pb.far7 (g' := g9) (by have := HG.out.1; have := HG.out.2; omega) (.int .i64 p.n0) (.int .i64 p.n1) (.int .i64 p.n2) (.int .i64 p.n3) (.int .i64 p.n4) (.int .i64 p.n5) (.int .i64 p.d)) (And.intro (Cb.far7 (g' := g9) (by have := HG.out.1; have := HG.out.2; omega) (.int .i64 p.n0) (.int .i64 p.n1) (.int .i64 p.n2) (.int .i64 p.n3) (.int .i64 p.n4) (.int .i64 p.n5) (.int .i64 p.d)) (Db.seven (.int .i64 p.n0) (.int .i64 p.n1) (.int .i64 p.n2) (.int .i64 p.n3) (.int .i64 p.n4) (.int .i64 p.n5) (.int .i64 p.d))))))⟩
  clear hB Ab Bb Pb Cb Db hb H5
  go_upto_region 7 with (fail)
  generalize (((((((v6).setCell ⟨g9, 0, none⟩ (.int .i64 p.n0)).setCell ⟨g9, 1, none⟩ (.int .i64 p.n1)).setCell ⟨g9, 2, none⟩ (.int .i64 p.n2)).setCell ⟨g9, 3, none⟩ (.int .i64 p.n3)).setCell ⟨g9, 4, none⟩ (.int .i64 p.n4)).setCell ⟨g9, 5, none⟩ (.int .i64 p.n5)).setCell ⟨g9, 6, none⟩ (.int .i64 p.d) = u6 at *
  clear d0 d1 d2 d3 d4 d5 d6 f0 f1 f2 f3 f4 f5 f6
  have heq := fun W : World => equal6 W p.n0 p.n1 p.n2 p.n3 p.n4 p.n5
  have x0 := H6.out.2.1.cell 0
  have x1 := H6.out.2.1.cell 1
  have x2 := H6.out.2.1.cell 2
  have x3 := H6.out.2.1.cell 3
  have x4 := H6.out.2.1.cell 4
  have x5 := H6.out.2.1.cell 5
  have x6 := H6.out.2.1.cell 6
  simp at x0 x1 x2 x3 x4 x5 x6
  have z0 := H6.out.2.2.2.1.cell 0
  have z1 := H6.out.2.2.2.1.cell 1
  simp at z0 z1
  have c0 := H6.out.2.2.2.2.1.cell 0
  have c1 := H6.out.2.2.2.2.1.cell 1
  have c2 := H6.out.2.2.2.2.1.cell 2
  have c3 := H6.out.2.2.2.2.1.cell 3
  have c4 := H6.out.2.2.2.2.1.cell 4
  have c5 := H6.out.2.2.2.2.1.cell 5
  have c6 := H6.out.2.2.2.2.1.cell 6
  simp at c0 c1 c2 c3 c4 c5 c6
  have d0 := H6.out.2.2.2.2.2.cell 0
  have d1 := H6.out.2.2.2.2.2.cell 1
  have d2 := H6.out.2.2.2.2.2.cell 2
  have d3 := H6.out.2.2.2.2.2.cell 3
  have d4 := H6.out.2.2.2.2.2.cell 4
  have d5 := H6.out.2.2.2.2.2.cell 5
  have d6 := H6.out.2.2.2.2.2.cell 6
  simp at d0 d1 d2 d3 d4 d5 d6
  go_wp2_with fail
  clear heq
  clear x0 x1 x2 x3 x4 x5 x6 c0 c1 c2 c3 c4 c5 c6 d0 d1 d2 d3 d4 d5 d6
  clear z0 z1
  refine (HA.out.2.2.2.2.1 u6).mono ?_; rintro e v7 ⟨rfl, hb⟩
  have hB := H6.out.1.trans (hb.mono H6.out.1.size)
  have Ab := H6.out.2.1.below hb H6.out.2.1.lt
  have Bb := H6.out.2.2.1.below hb H6.out.2.2.1.lt
  have Pb := H6.out.2.2.2.1.below hb H6.out.2.2.2.1.lt
  have Cb := H6.out.2.2.2.2.1.below hb H6.out.2.2.2.2.1.lt
  have Db := H6.out.2.2.2.2.2.below hb H6.out.2.2.2.2.2.lt
  have d0 := Cb.cell 0
  have d1 := Cb.cell 1
  have d2 := Cb.cell 2
  have d3 := Cb.cell 3
  have d4 := Cb.cell 4
  have d5 := Cb.cell 5
  have d6 := Cb.cell 6
  simp at d0 d1 d2 d3 d4 d5 d6
  have f0 := Cb.frozen 0
  have f1 := Cb.frozen 1
  have f2 := Cb.frozen 2
  have f3 := Cb.frozen 3
  have f4 := Cb.frozen 4
  have f5 := Cb.frozen 5
  have f6 := Cb.frozen 6
  have H7 : Sl _ := ⟨And.intro (below_seven hB (g := g7) (by have := HG.out.1; have := HG.out.2; omega) (.int .i64 r.n0) (.int .i64 r.n1) (.int .i64 r.n2) (.int .i64 r.n3) (.int .i64 r.n4) (.int .i64 r.n5) (.int .i64 r.d)) (And.intro (Ab.far7 (g' := g7) (by have := HG.out.1; have := HG.out.2; omega) (.int .i64 r.n0) (.int .i64 r.n1) (.int .i64 r.n2) (.int .i64 r.n3) (.int .i64 r.n4) (.int .i64 r.n5) (.int .i64 r.d)) (And.intro (Bb.far7 (g' := g7) (by have := HG.out.1; have := HG.out.2; omega) (.int .i64 r.n0) (.int .i64 r.n1) (.int .i64 r.n2) (.int .i64 r.n3) (.int .i64 r.n4) (.int .i64 r.n5) (.int .i64 r.d)) (And.intro (Pb.far7 (g' := g7) (by have := HG.out.1; have := HG.out.2; omega) (.int .i64 r.n0) (.int .i64 r.n1) (.int .i64 r.n2) (.int .i64 r.n3) (.int .i64 r.n4) (.int .i64 r.n5) (.int .i64 r.d)) (And.intro (Cb.seven (.int .i64 r.n0) (.int .i64 r.n1) (.int .i64 r.n2) (.int .i64 r.n3) (.int .i64 r.n4) (.int .i64 r.n5) (.int .i64 r.d)) (Db.far7 (g' := g7) (by have := HG.out.1; have := HG.out.2; omega) (.int .i64 r.n0) (.int .i64 r.n1) (.int .i64 r.n2) (.int .i64 r.n3) (.int .i64 r.n4) (.int .i64 r.n5) (.int .i64 r.d))))))⟩
  clear hB Ab Bb Pb Cb Db hb H6
  go_upto_region 10 with (fail)
  generalize (((((((v7).setCell ⟨g7, 0, none⟩ (.int .i64 r.n0)).setCell ⟨g7, 1, none⟩ (.int .i64 r.n1)).setCell ⟨g7, 2, none⟩ (.int .i64 r.n2)).setCell ⟨g7, 3, none⟩ (.int .i64 r.n3)).setCell ⟨g7, 4, none⟩ (.int .i64 r.n4)).setCell ⟨g7, 5, none⟩ (.int .i64 r.n5)).setCell ⟨g7, 6, none⟩ (.int .i64 r.d) = u7 at *
  clear d0 d1 d2 d3 d4 d5 d6 f0 f1 f2 f3 f4 f5 f6
  have x0 := H7.out.2.1.cell 0
  have x1 := H7.out.2.1.cell 1
  have x2 := H7.out.2.1.cell 2
  have x3 := H7.out.2.1.cell 3
  have x4 := H7.out.2.1.cell 4
  have x5 := H7.out.2.1.cell 5
  have x6 := H7.out.2.1.cell 6
  simp at x0 x1 x2 x3 x4 x5 x6
  have z0 := H7.out.2.2.2.1.cell 0
  have z1 := H7.out.2.2.2.1.cell 1
  simp at z0 z1
  go_wp2_with fail
  clear x0 x1 x2 x3 x4 x5 x6
  clear z0 z1
  refine (HA.out.2.2.2.2.2 u7).mono ?_; rintro e v8 ⟨rfl, hb⟩
  have hB := H7.out.1.trans (hb.mono H7.out.1.size)
  have Ab := H7.out.2.1.below hb H7.out.2.1.lt
  have Bb := H7.out.2.2.1.below hb H7.out.2.2.1.lt
  have Pb := H7.out.2.2.2.1.below hb H7.out.2.2.2.1.lt
  have Cb := H7.out.2.2.2.2.1.below hb H7.out.2.2.2.2.1.lt
  have Db := H7.out.2.2.2.2.2.below hb H7.out.2.2.2.2.2.lt
  have d0 := Db.cell 0
  have d1 := Db.cell 1
  have d2 := Db.cell 2
  have d3 := Db.cell 3
  have d4 := Db.cell 4
  have d5 := Db.cell 5
  have d6 := Db.cell 6
  simp at d0 d1 d2 d3 d4 d5 d6
  have f0 := Db.frozen 0
  have f1 := Db.frozen 1
  have f2 := Db.frozen 2
  have f3 := Db.frozen 3
  have f4 := Db.frozen 4
  have f5 := Db.frozen 5
  have f6 := Db.frozen 6
  have H8 : Sl _ := ⟨And.intro (below_seven hB (g := g9) (by have := HG.out.1; have := HG.out.2; omega) (.int .i64 r.n0) (.int .i64 r.n1) (.int .i64 r.n2) (.int .i64 r.n3) (.int .i64 r.n4) (.int .i64 r.n5) (.int .i64 r.d)) (And.intro (Ab.far7 (g' := g9) (by have := HG.out.1; have := HG.out.2; omega) (.int .i64 r.n0) (.int .i64 r.n1) (.int .i64 r.n2) (.int .i64 r.n3) (.int .i64 r.n4) (.int .i64 r.n5) (.int .i64 r.d)) (And.intro (Bb.far7 (g' := g9) (by have := HG.out.1; have := HG.out.2; omega) (.int .i64 r.n0) (.int .i64 r.n1) (.int .i64 r.n2) (.int .i64 r.n3) (.int .i64 r.n4) (.int .i64 r.n5) (.int .i64 r.d)) (And.intro (Pb.far7 (g' := g9) (by have := HG.out.1; have := HG.out.2; omega) (.int .i64 r.n0) (.int .i64 r.n1) (.int .i64 r.n2) (.int .i64 r.n3) (.int .i64 r.n4) (.int .i64 r.n5) (.int .i64 r.d)) (And.intro (Cb.far7 (g' := g9) (by have := HG.out.1; have := HG.out.2; omega) (.int .i64 r.n0) (.int .i64 r.n1) (.int .i64 r.n2) (.int .i64 r.n3) (.int .i64 r.n4) (.int .i64 r.n5) (.int .i64 r.d)) (Db.seven (.int .i64 r.n0) (.int .i64 r.n1) (.int .i64 r.n2) (.int .i64 r.n3) (.int .i64 r.n4) (.int .i64 r.n5) (.int .i64 r.d))))))⟩
  clear hB Ab Bb Pb Cb Db hb H7
  go_upto_region 11 with (fail)
  generalize (((((((v8).setCell ⟨g9, 0, none⟩ (.int .i64 r.n0)).setCell ⟨g9, 1, none⟩ (.int .i64 r.n1)).setCell ⟨g9, 2, none⟩ (.int .i64 r.n2)).setCell ⟨g9, 3, none⟩ (.int .i64 r.n3)).setCell ⟨g9, 4, none⟩ (.int .i64 r.n4)).setCell ⟨g9, 5, none⟩ (.int .i64 r.n5)).setCell ⟨g9, 6, none⟩ (.int .i64 r.d) = u8 at *
  clear d0 d1 d2 d3 d4 d5 d6 f0 f1 f2 f3 f4 f5 f6
  have heq := fun W : World => equal6 W r.n0 r.n1 r.n2 r.n3 r.n4 r.n5
  have c0 := H8.out.2.2.2.2.1.cell 0
  have c1 := H8.out.2.2.2.2.1.cell 1
  have c2 := H8.out.2.2.2.2.1.cell 2
  have c3 := H8.out.2.2.2.2.1.cell 3
  have c4 := H8.out.2.2.2.2.1.cell 4
  have c5 := H8.out.2.2.2.2.1.cell 5
  have c6 := H8.out.2.2.2.2.1.cell 6
  simp at c0 c1 c2 c3 c4 c5 c6
  have d0 := H8.out.2.2.2.2.2.cell 0
  have d1 := H8.out.2.2.2.2.2.cell 1
  have d2 := H8.out.2.2.2.2.2.cell 2
  have d3 := H8.out.2.2.2.2.2.cell 3
  have d4 := H8.out.2.2.2.2.2.cell 4
  have d5 := H8.out.2.2.2.2.2.cell 5
  have d6 := H8.out.2.2.2.2.2.cell 6
  simp at d0 d1 d2 d3 d4 d5 d6
  have HAW : Sl _ := ⟨awake4_any u8 (HT.out.below H8.out.1)⟩
  clear HA HG HT
  go_wp2_with fail
  refine HAW.out.mono ?_; rintro e w9 ⟨rfl, hb9⟩
  clear heq
  go_wp2_with fail
  go_ret
  exact ⟨rfl, H8.out.1.trans (hb9.mono H8.out.1.size)⟩
end Go.Proofs.YtcmofoggdchofaaDoor
