/- The reference of chapter 04: both, Mul, Div. (Printed by genboth.py from RatZ, MulA.) -/
import Derived.Test.YtalodfjplegibaaGreatDoorMulC
import Derived.Deep.RegionHeld3
namespace Go.Proofs.YtalodfjplegibaaGreatDoor
set_option linter.unusedSimpArgs false
open Go.RowKit
set_option linter.unusedVariables false

set_option maxHeartbeats 3200000 in
set_option maxRecDepth 100000 in
theorem r4both_any (a b : RV) (y : Int) (hy : y = 1 ∨ y = -1) (w : World) :
    Calls Tryz.prog 55 #[.agg a.cells, .agg b.cells, .int .i64 y] w fun e w' => OfRes e (joinS a b y) ∧ Below w.heap.size w w' := by
  obtain ⟨s, hs⟩ : ∃ s, joinS a b y = s := ⟨_, rfl⟩
  rw [hs]
  have HSS : Sl _ := ⟨hs⟩
  clear hs
  have hu := (((Below.refl w.heap.size w).alloc (Nat.le_refl _) (.cells a.cells 24)).alloc (by simp) (.cells b.cells 24)).alloc (by simp; omega) (.cells RVzero.cells 24)
  have X0 := ((Blk.new w 24 a.cells).alloc (.cells b.cells 24)).alloc (.cells RVzero.cells 24)
  have X1 := (Blk.new (w.alloc (.cells a.cells 24)) 24 b.cells).alloc (.cells RVzero.cells 24)
  have X2 := Blk.new ((w.alloc (.cells a.cells 24)).alloc (.cells b.cells 24)) 24 RVzero.cells
  rw [show (w.alloc (.cells a.cells 24)).heap.size = w.heap.size + 1 by simp] at X1
  rw [show ((w.alloc (.cells a.cells 24)).alloc (.cells b.cells 24)).heap.size = w.heap.size + 1 + 1 by simp] at X2
  have HU : Sl _ := ⟨And.intro hu (And.intro X0 (And.intro X1 X2))⟩
  rw [RVzero_cells] at HU
  clear hu X0 X1 X2
  have HCA : Sl _ := ⟨fun W : World => r4Check_any a W⟩
  have HCB : Sl _ := ⟨fun W : World => r4Check_any b W⟩
  obtain ⟨ea, hea⟩ : ∃ c, checkS a = c := ⟨_, rfl⟩
  obtain ⟨eb, heb⟩ : ∃ c, checkS b = c := ⟨_, rfl⟩
  rw [hea] at HCA
  rw [heb] at HCB
  have hKA := hea
  have hKB := heb
  have HE : Sl _ := ⟨And.intro hea heb⟩
  clear hea heb hKA hKB
  have hca : a.cells = #[.int .i64 a.n0, .int .i64 a.n1, .int .i64 a.n2, .int .i64 a.n3, .int .i64 a.n4, .int .i64 a.n5, .int .i64 a.d] := rfl
  have hcb : b.cells = #[.int .i64 b.n0, .int .i64 b.n1, .int .i64 b.n2, .int .i64 b.n3, .int .i64 b.n4, .int .i64 b.n5, .int .i64 b.d] := rfl
  rw [hca] at HCA HU ⊢
  rw [hcb] at HCB HU ⊢
  have HCE : Sl _ := ⟨And.intro hca hcb⟩
  have HY : Sl _ := ⟨hy⟩
  clear hca hcb hy
  go_enter Tryz.func55, Tryz.ntmps55
  go_wp2_with fail
  generalize ((w.alloc (.cells #[.int .i64 a.n0, .int .i64 a.n1, .int .i64 a.n2, .int .i64 a.n3, .int .i64 a.n4, .int .i64 a.n5, .int .i64 a.d] 24)).alloc (.cells #[.int .i64 b.n0, .int .i64 b.n1, .int .i64 b.n2, .int .i64 b.n3, .int .i64 b.n4, .int .i64 b.n5, .int .i64 b.d] 24)).alloc (.cells #[.int .i64 0, .int .i64 0, .int .i64 0, .int .i64 0, .int .i64 0, .int .i64 0, .int .i64 0] 24) = w0 at *
  have HS : Sl (∀ w' : World, RowKit.Below w0.heap.size w0 w' → w'.cell? ⟨w.heap.size, 0, none⟩ = some (.int .i64 a.n0) ∧ w'.cell? ⟨w.heap.size, 1, none⟩ = some (.int .i64 a.n1) ∧ w'.cell? ⟨w.heap.size, 2, none⟩ = some (.int .i64 a.n2) ∧ w'.cell? ⟨w.heap.size, 3, none⟩ = some (.int .i64 a.n3) ∧ w'.cell? ⟨w.heap.size, 4, none⟩ = some (.int .i64 a.n4) ∧ w'.cell? ⟨w.heap.size, 5, none⟩ = some (.int .i64 a.n5) ∧ w'.cell? ⟨w.heap.size, 6, none⟩ = some (.int .i64 a.d) ∧ w'.cell? ⟨w.heap.size + 1, 0, none⟩ = some (.int .i64 b.n0) ∧ w'.cell? ⟨w.heap.size + 1, 1, none⟩ = some (.int .i64 b.n1) ∧ w'.cell? ⟨w.heap.size + 1, 2, none⟩ = some (.int .i64 b.n2) ∧ w'.cell? ⟨w.heap.size + 1, 3, none⟩ = some (.int .i64 b.n3) ∧ w'.cell? ⟨w.heap.size + 1, 4, none⟩ = some (.int .i64 b.n4) ∧ w'.cell? ⟨w.heap.size + 1, 5, none⟩ = some (.int .i64 b.n5) ∧ w'.cell? ⟨w.heap.size + 1, 6, none⟩ = some (.int .i64 b.d)) := ⟨fun w' h => by
    have e1 := HU.out.2.1.below h HU.out.2.1.lt
    have e2 := HU.out.2.2.1.below h HU.out.2.2.1.lt
    exact ⟨e1.cell 0, e1.cell 1, e1.cell 2, e1.cell 3, e1.cell 4, e1.cell 5, e1.cell 6, e2.cell 0, e2.cell 1, e2.cell 2, e2.cell 3, e2.cell 4, e2.cell 5, e2.cell 6⟩⟩
  have hs : RowKit.Below w0.heap.size w0 w0.drew := below_drewN (Below.refl _ _) 1
  go_region_held3 (fun w' : World => w'.cell? ⟨w.heap.size, 0, none⟩ = some (.int .i64 a.n0) ∧ w'.cell? ⟨w.heap.size, 1, none⟩ = some (.int .i64 a.n1) ∧ w'.cell? ⟨w.heap.size, 2, none⟩ = some (.int .i64 a.n2) ∧ w'.cell? ⟨w.heap.size, 3, none⟩ = some (.int .i64 a.n3) ∧ w'.cell? ⟨w.heap.size, 4, none⟩ = some (.int .i64 a.n4) ∧ w'.cell? ⟨w.heap.size, 5, none⟩ = some (.int .i64 a.n5) ∧ w'.cell? ⟨w.heap.size, 6, none⟩ = some (.int .i64 a.d) ∧ w'.cell? ⟨w.heap.size + 1, 0, none⟩ = some (.int .i64 b.n0) ∧ w'.cell? ⟨w.heap.size + 1, 1, none⟩ = some (.int .i64 b.n1) ∧ w'.cell? ⟨w.heap.size + 1, 2, none⟩ = some (.int .i64 b.n2) ∧ w'.cell? ⟨w.heap.size + 1, 3, none⟩ = some (.int .i64 b.n3) ∧ w'.cell? ⟨w.heap.size + 1, 4, none⟩ = some (.int .i64 b.n4) ∧ w'.cell? ⟨w.heap.size + 1, 5, none⟩ = some (.int .i64 b.n5) ∧ w'.cell? ⟨w.heap.size + 1, 6, none⟩ = some (.int .i64 b.d))
    (first | (refine HS.out _ ?_; assumption) | fail)
    (first
      | (go_at_call 31; (with_reducible refine (HCA.out _).mono ?_); rintro e wz ⟨rfl, hb⟩; have hs := hs.trans (hb.mono hs.size))
      | (go_at_call 31; (with_reducible refine (HCB.out _).mono ?_); rintro e wz ⟨rfl, hb⟩; have hs := hs.trans (hb.mono hs.size))
      | fail)
  all_goals (
    have hB := HU.out.1.trans (hs.mono HU.out.1.size)
    have Xa := HU.out.2.1.below hs HU.out.2.1.lt
    have Xb := HU.out.2.2.1.below hs HU.out.2.2.1.lt
    have Xz := HU.out.2.2.2.below hs HU.out.2.2.2.lt
    have HW : Sl _ := ⟨And.intro hB (And.intro Xa (And.intro Xb Xz))⟩
    clear hB Xa Xb Xz HS HCA HCB HU hs
    generalize wz = wk at *
    obtain ⟨c, hc⟩ : ∃ c, firstE ea eb = c := ⟨_, rfl⟩)
  by_cases h0 : c = 0
  · have hab : ea = 0 ∧ eb = 0 := by
      unfold firstE at hc
      rw [h0] at hc
      by_cases e : ea = 0
      · rw [if_pos e] at hc; exact ⟨e, hc⟩
      · rw [if_neg e] at hc; exact absurd hc e
    have ka := checkS_ok (HE.out.1.trans hab.1)
    have kb := checkS_ok (HE.out.2.trans hab.2)
    have hgood := joinR_good (HE.out.1.trans hab.1) (HE.out.2.trans hab.2) HY.out
    have hsj : madeS (joinR a b y) = s := by
      rw [← HSS.out]
      unfold joinS
      rw [HE.out.1, HE.out.2, hc, if_pos h0]
    have HG : Sl _ := ⟨And.intro hgood (And.intro hsj (And.intro ka kb))⟩
    have had : 1 ≤ a.d ∧ a.d ≤ 1000 := ka.1
    have hbd : 1 ≤ b.d ∧ b.d ≤ 1000 := kb.1
    have hbw := HW.out.1.alloc HW.out.1.size (.cells #[.int .i64 0, .int .i64 0, .int .i64 0, .int .i64 0, .int .i64 0, .int .i64 0] 67)
    have Xa := HW.out.2.1.alloc (.cells #[.int .i64 0, .int .i64 0, .int .i64 0, .int .i64 0, .int .i64 0, .int .i64 0] 67)
    have Xb := HW.out.2.2.1.alloc (.cells #[.int .i64 0, .int .i64 0, .int .i64 0, .int .i64 0, .int .i64 0, .int .i64 0] 67)
    have Xz := HW.out.2.2.2.alloc (.cells #[.int .i64 0, .int .i64 0, .int .i64 0, .int .i64 0, .int .i64 0, .int .i64 0] 67)
    have Xn := Blk.new wk 67 #[.int .i64 0, .int .i64 0, .int .i64 0, .int .i64 0, .int .i64 0, .int .i64 0]
    rw [← HCE.out.1] at Xa
    rw [← HCE.out.2] at Xb
    have HX : Sl _ := ⟨And.intro hbw (And.intro Xa (And.intro Xb (And.intro Xz (And.intro Xn HW.out.2.2.2.lt))))⟩
    have hab2 := hab
    clear hab ka kb hgood hsj hbw Xa Xb Xz Xn hc HSS HW
    obtain ⟨rfl, rfl⟩ := hab2
    subst h0
    go_wp2_with fail
    generalize hg4 : wk.heap.size = g4 at *
    generalize wk.alloc (.cells #[.int .i64 0, .int .i64 0, .int .i64 0, .int .i64 0, .int .i64 0, .int .i64 0] 67) = w2 at *
    clear hg4
    go_loopw [11] (fun s21 wr => ∃ i : Nat, i ≤ 6 ∧ s21 = .int .i64 i ∧ Sl (Below w.heap.size w wr ∧ Blk wr w.heap.size 24 a.cells ∧ Blk wr (w.heap.size + 1) 24 b.cells ∧ Blk wr (w.heap.size + 1 + 1) 24 #[.int .i64 0, .int .i64 0, .int .i64 0, .int .i64 0, .int .i64 0, .int .i64 0, .int .i64 0] ∧ Blk wr g4 67 (RV.of (fun j => if j < i then a.num j * b.d + y * b.num j * a.d else 0) 0).nums)) (fun s21 _ => 6 - (RowKit.intOf s21).toNat)
    case atStart => exact ⟨0, by decide, rfl, ⟨HX.out.1, HX.out.2.1, HX.out.2.2.1, HX.out.2.2.2.1, HX.out.2.2.2.2.1⟩⟩
    case round =>
      obtain ⟨i, hi, rfl, HI⟩ := hrel
      by_cases hi6 : i < 6
      · have cA : wr.cell? ⟨w.heap.size, i, none⟩ = some (.int .i64 (a.num i)) := by rw [HI.out.2.1.cell, RV.ccell a hi6]
        have cB : wr.cell? ⟨w.heap.size + 1, i, none⟩ = some (.int .i64 (b.num i)) := by rw [HI.out.2.2.1.cell, RV.ccell b hi6]
        have dA : wr.cell? ⟨w.heap.size, 6, none⟩ = some (.int .i64 a.d) := by rw [HI.out.2.1.cell, RV.dcell a]
        have dB : wr.cell? ⟨w.heap.size + 1, 6, none⟩ = some (.int .i64 b.d) := by rw [HI.out.2.2.1.cell, RV.dcell b]
        have hcell : wr.cell? ⟨g4, i, none⟩ = some (.int .i64 0) := by
          rw [HI.out.2.2.2.2.cell, RV.of_ncell _ _ hi6, if_neg (Nat.lt_irrefl _)]
        have hfz : wr.frozen? ⟨g4, i, none⟩ = false := HI.out.2.2.2.2.frozen i
        have p1 := inR_mul (HG.out.2.2.1.2.1 i hi6) hbd.1 hbd.2
        have p2 := HG.out.2.2.2.2.1 i hi6
        have p2b : -100000 ≤ y * b.num i ∧ y * b.num i ≤ 100000 := by
          have h1 := p2.1
          have h2 := p2.2
          rcases HY.out with h | h
          · rw [h]; omega
          · rw [h]; omega
        have p3 := inR_mul (x := y * b.num i) p2b had.1 had.2
        obtain ⟨z, hz⟩ : ∃ z, a.num i = z := ⟨_, rfl⟩
        obtain ⟨u, hu⟩ : ∃ u, b.num i = u := ⟨_, rfl⟩
        rw [hz] at cA p1
        rw [hu] at cB p2b p3
        obtain ⟨P, hP⟩ : ∃ P, z * b.d = P := ⟨_, rfl⟩
        obtain ⟨Y, hY⟩ : ∃ Y, y * u = Y := ⟨_, rfl⟩
        rw [hY] at p2b p3
        obtain ⟨T, hT⟩ : ∃ T, Y * a.d = T := ⟨_, rfl⟩
        rw [hP] at p1
        rw [hT] at p3
        obtain ⟨p1a, p1b⟩ := p1
        obtain ⟨p2c, p2d⟩ := p2b
        obtain ⟨p3a, p3b⟩ := p3
        have hwP : IntKind.i64.wrap P = P := by rw [IntKind.wrap_i64]; omega
        have hwY : IntKind.i64.wrap Y = Y := by rw [IntKind.wrap_i64]; omega
        have hwT : IntKind.i64.wrap T = T := by rw [IntKind.wrap_i64]; omega
        have hwS : IntKind.i64.wrap (P + T) = P + T := by rw [IntKind.wrap_i64]; omega
        have hPn := HI.out.2.2.2.2.set_ i (.int .i64 (P + T))
        rw [RV.of_nset _ _ _ hi6] at hPn
        have hne0 : w.heap.size ≠ g4 := by have := HX.out.2.2.2.2.2; omega
        have hne1 : w.heap.size + 1 ≠ g4 := by have := HX.out.2.2.2.2.2; omega
        have hne2 : w.heap.size + 1 + 1 ≠ g4 := by have := HX.out.2.2.2.2.2; omega
        have hF : RV.of (fun j => if j = i then P + T else if j < i then a.num j * b.d + y * b.num j * a.d else 0) 0 = RV.of (fun j => if j < i + 1 then a.num j * b.d + y * b.num j * a.d else 0) 0 := RV.of_congr 0 (fun j hj => by
          by_cases h : j = i
          · rw [if_pos h, if_pos (by omega), h, hz, hu, hP, hY, hT]
          · rw [if_neg h]
            by_cases h2 : j < i
            · rw [if_pos h2, if_pos (by omega)]
            · rw [if_neg h2, if_neg (by omega)])
        rw [hF] at hPn
        have HN : Sl _ := ⟨And.intro (HI.out.1.setCell (p := ⟨g4, i, none⟩) (by have := HX.out.2.2.2.2.2; show w.heap.size ≤ g4; omega) (.int .i64 (P + T))) (And.intro (HI.out.2.1.far (p := ⟨g4, i, none⟩) hne0 (.int .i64 (P + T))) (And.intro (HI.out.2.2.1.far (p := ⟨g4, i, none⟩) hne1 (.int .i64 (P + T))) (And.intro (HI.out.2.2.2.1.far (p := ⟨g4, i, none⟩) hne2 (.int .i64 (P + T))) hPn)))⟩
        clear hPn hne0 hne1 hne2 hF p1a p1b p2c p2d p3a p3b p2 hz hu HI had hbd
        go_wp2_with fail
        go_region
        all_goals (
          go_wp2_with fail
          refine ⟨?_, by simp [RowKit.intOf]; omega⟩
          exact ⟨i + 1, hi6, by go_num, ⟨below_drewN HN.out.1 1, HN.out.2⟩⟩)
      · obtain rfl : i = 6 := by omega
        clear hi6 hi
        have hmk : RV.of (fun j => if j < 6 then a.num j * b.d + y * b.num j * a.d else 0) 0 = RV.of (fun j => a.num j * b.d + y * b.num j * a.d) 0 := RV.of_congr 0 (fun j hj => if_pos hj)
        have Y4 := HI.out.2.2.2.2
        rw [hmk] at Y4
        have hnn : (RV.of (fun j => a.num j * b.d + y * b.num j * a.d) 0).nums = (joinR a b y).nums := rfl
        rw [hnn] at Y4
        have hqd : a.d * b.d = (joinR a b y).d := rfl
        have dA : wr.cell? ⟨w.heap.size, 6, none⟩ = some (.int .i64 a.d) := by rw [HI.out.2.1.cell, RV.dcell a]
        have dB : wr.cell? ⟨w.heap.size + 1, 6, none⟩ = some (.int .i64 b.d) := by rw [HI.out.2.2.1.cell, RV.dcell b]
        have hM := fun W : World => r4made_any (joinR a b y) W HG.out.1.1 HG.out.1.2.1 HG.out.1.2.2
        have hq1 := HG.out.1.1
        have hq2 := HG.out.1.2.1
        rw [HG.out.2.1] at hM
        have HI2 : Sl _ := ⟨And.intro HI.out.1 HI.out.2.2.2.1⟩
        clear hmk hnn HI HG had hbd
        generalize joinR a b y = q at *
        unfold RV.nums at Y4 hM
        obtain ⟨r, er⟩ := s
        unfold OfRes RV.cells at hM
        have HM : Sl _ := ⟨hM⟩
        have x0 := Y4.cell 0
        have x1 := Y4.cell 1
        have x2 := Y4.cell 2
        have x3 := Y4.cell 3
        have x4 := Y4.cell 4
        have x5 := Y4.cell 5
        simp at x0 x1 x2 x3 x4 x5
        have hwq : IntKind.i64.wrap q.d = q.d := by rw [IntKind.wrap_i64]; omega
        clear hM Y4 hq1 hq2
        go_wp2_with fail
        refine (HM.out _).mono ?_; rintro e w3 ⟨rfl, hb3⟩
        have hB := HI2.out.1.trans (hb3.mono HI2.out.1.size)
        have Z := HI2.out.2.below hb3 HI2.out.2.lt
        clear x0 x1 x2 x3 x4 x5 dA dB
        have d0 := Z.cell 0
        have d1 := Z.cell 1
        have d2 := Z.cell 2
        have d3 := Z.cell 3
        have d4 := Z.cell 4
        have d5 := Z.cell 5
        have d6 := Z.cell 6
        simp at d0 d1 d2 d3 d4 d5 d6
        have f0 := Z.frozen 0
        have f1 := Z.frozen 1
        have f2 := Z.frozen 2
        have f3 := Z.frozen 3
        have f4 := Z.frozen 4
        have f5 := Z.frozen 5
        have f6 := Z.frozen 6
        have HFIN : Sl _ := ⟨And.intro hB Z⟩
        clear hB Z HM hb3
        go_wp2_with fail
        refine bodyPost_ret (results_rowR rfl _ _ (w.heap.size + 1 + 1) _ _ _ rfl (HFIN.out.2.seven _ _ _ _ _ _ _) Tryz.underlying24 rfl (by kernel_rfl)) rfl ?_
        exact ⟨rfl, below_seven HFIN.out.1 (by omega) _ _ _ _ _ _ _⟩
  · have HZR : Sl (s = (RVzero, c)) := ⟨by
      rw [← HSS.out]
      unfold joinS
      rw [HE.out.1, HE.out.2, hc, if_neg h0]⟩
    have d0 := HW.out.2.2.2.cell 0
    have d1 := HW.out.2.2.2.cell 1
    have d2 := HW.out.2.2.2.cell 2
    have d3 := HW.out.2.2.2.cell 3
    have d4 := HW.out.2.2.2.cell 4
    have d5 := HW.out.2.2.2.cell 5
    have d6 := HW.out.2.2.2.cell 6
    simp at d0 d1 d2 d3 d4 d5 d6
    have f0 := HW.out.2.2.2.frozen 0
    have f1 := HW.out.2.2.2.frozen 1
    have f2 := HW.out.2.2.2.frozen 2
    have f3 := HW.out.2.2.2.frozen 3
    have f4 := HW.out.2.2.2.frozen 4
    have f5 := HW.out.2.2.2.frozen 5
    have f6 := HW.out.2.2.2.frozen 6
    unfold firstE at hc
    by_cases hea : ea = 0
    · rw [if_pos hea] at hc
      subst hc hea
      have hcz : (eb != 0) = true := by rw [bne_iff_ne]; exact h0
      clear HCE h0
      go_wp2_with fail
      refine bodyPost_ret (results_rowR rfl _ _ (w.heap.size + 1 + 1) _ _ _ rfl (HW.out.2.2.2.seven _ _ _ _ _ _ _) Tryz.underlying24 rfl (by kernel_rfl)) rfl ?_
      exact ⟨by rw [HZR.out]; rfl, below_seven HW.out.1 (by omega) _ _ _ _ _ _ _⟩
    · rw [if_neg hea] at hc
      subst hc
      have hcz : (ea != 0) = true := by rw [bne_iff_ne]; exact h0
      clear HCE h0
      go_wp2_with fail
      refine bodyPost_ret (results_rowR rfl _ _ (w.heap.size + 1 + 1) _ _ _ rfl (HW.out.2.2.2.seven _ _ _ _ _ _ _) Tryz.underlying24 rfl (by kernel_rfl)) rfl ?_
      exact ⟨by rw [HZR.out]; rfl, below_seven HW.out.1 (by omega) _ _ _ _ _ _ _⟩
set_option maxHeartbeats 3200000 in
set_option maxRecDepth 100000 in
theorem r4Mul_any (a b : RV) (w : World) : Calls Tryz.prog 32 #[.agg a.cells, .agg b.cells] w fun e w' => OfRes e (joinS a b 1) ∧ Below w.heap.size w w' := by
  have hu := (((Below.refl w.heap.size w).alloc (Nat.le_refl _) (.cells a.cells 24)).alloc (by simp) (.cells b.cells 24)).alloc (by simp; omega) (.cells RVzero.cells 24)
  have X0 := ((Blk.new w 24 a.cells).alloc (.cells b.cells 24)).alloc (.cells RVzero.cells 24)
  have X1 := (Blk.new (w.alloc (.cells a.cells 24)) 24 b.cells).alloc (.cells RVzero.cells 24)
  have X2 := Blk.new ((w.alloc (.cells a.cells 24)).alloc (.cells b.cells 24)) 24 RVzero.cells
  rw [show (w.alloc (.cells a.cells 24)).heap.size = w.heap.size + 1 by simp] at X1
  rw [show ((w.alloc (.cells a.cells 24)).alloc (.cells b.cells 24)).heap.size = w.heap.size + 1 + 1 by simp] at X2
  have hJ := fun W : World => r4both_any a b (1) (by decide) W
  obtain ⟨⟨r, er⟩, hs⟩ : ∃ s, joinS a b (1) = s := ⟨_, rfl⟩
  rw [hs] at hJ ⊢
  clear hs
  unfold OfRes at hJ
  rw [RVzero_cells] at hu X0 X1 X2
  unfold RV.cells at *
  simp only [] at hJ
  have HJ : Sl _ := ⟨hJ⟩
  have x0 := X0.cell 0
  have x1 := X0.cell 1
  have x2 := X0.cell 2
  have x3 := X0.cell 3
  have x4 := X0.cell 4
  have x5 := X0.cell 5
  have x6 := X0.cell 6
  simp at x0 x1 x2 x3 x4 x5 x6
  have y0 := X1.cell 0
  have y1 := X1.cell 1
  have y2 := X1.cell 2
  have y3 := X1.cell 3
  have y4 := X1.cell 4
  have y5 := X1.cell 5
  have y6 := X1.cell 6
  simp at y0 y1 y2 y3 y4 y5 y6
  have HU : Sl _ := ⟨And.intro hu X2⟩
  clear hu X0 X1 X2 hJ
  go_enter Tryz.func32, Tryz.ntmps32
  go_wp2_with fail
  clear x0 x1 x2 x3 x4 x5 x6 y0 y1 y2 y3 y4 y5 y6
  refine (HJ.out _).mono ?_; rintro e w3 ⟨rfl, hb3⟩
  have hB := HU.out.1.trans (hb3.mono HU.out.1.size)
  have Z := HU.out.2.below hb3 HU.out.2.lt
  have d0 := Z.cell 0
  have d1 := Z.cell 1
  have d2 := Z.cell 2
  have d3 := Z.cell 3
  have d4 := Z.cell 4
  have d5 := Z.cell 5
  have d6 := Z.cell 6
  simp at d0 d1 d2 d3 d4 d5 d6
  have f0 := Z.frozen 0
  have f1 := Z.frozen 1
  have f2 := Z.frozen 2
  have f3 := Z.frozen 3
  have f4 := Z.frozen 4
  have f5 := Z.frozen 5
  have f6 := Z.frozen 6
  have HFIN : Sl _ := ⟨And.intro hB Z⟩
  clear hB Z HJ hb3
  go_wp2_with fail
  refine bodyPost_ret (results_rowR rfl _ _ (w.heap.size + 1 + 1) _ _ _ rfl (HFIN.out.2.seven _ _ _ _ _ _ _) Tryz.underlying24 rfl (by kernel_rfl)) rfl ?_
  exact ⟨rfl, below_seven HFIN.out.1 (by omega) _ _ _ _ _ _ _⟩
end Go.Proofs.YtalodfjplegibaaGreatDoor
