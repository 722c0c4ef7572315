/- Package ratios: Pow. (Printed by genpow.py.) -/
import Derived.Test.YtmcoadmnkelkkaaGreatDoorMulA
namespace Go.Proofs.YtmcoadmnkelkkaaGreatDoor
set_option linter.unusedSimpArgs false
open Go.RowKit
set_option linter.unusedVariables false

theorem inR_mul2 {x m : Int} (hx : inR x) (h1 : -1000 ≤ m) (h2 : m ≤ 1000) : -100000000 ≤ x * m ∧ x * m ≤ 100000000 := by
  have hab : (x * m).natAbs ≤ 100000 * 1000 := by
    rw [Int.natAbs_mul]
    exact Nat.mul_le_mul (by have := hx.1; have := hx.2; omega) (by omega)
  omega
theorem okP_cases (n d : Int) : okP n d ∨ (¬ okP n d ∧ (n < -1000 ∨ (¬ n < -1000 ∧ 1000 < n) ∨ (¬ n < -1000 ∧ ¬ 1000 < n ∧ d < -1000) ∨ (¬ n < -1000 ∧ ¬ 1000 < n ∧ ¬ d < -1000 ∧ 1000 < d) ∨ (¬ n < -1000 ∧ ¬ 1000 < n ∧ ¬ d < -1000 ∧ ¬ 1000 < d ∧ d = 0))) := by
  unfold okP
  omega
set_option maxHeartbeats 6400000 in
set_option maxRecDepth 100000 in
theorem vPow_any (a : RV) (n d : Int) (w : World) : Calls Tryz.prog 82 #[.agg a.cells, .int .i64 n, .int .i64 d] w fun e w' => OfRes e (powS a n d) ∧ Below w.heap.size w w' := by
  have hu := ((Below.refl w.heap.size w).alloc (Nat.le_refl _) (.cells a.cells 35)).alloc (by simp) (.cells RVzero.cells 35)
  have X0 := (Blk.new w 35 a.cells).alloc (.cells RVzero.cells 35)
  have X1 := Blk.new (w.alloc (.cells a.cells 35)) 35 RVzero.cells
  rw [show (w.alloc (.cells a.cells 35)).heap.size = w.heap.size + 1 by simp] at X1
  rw [RVzero_cells] at hu X1 X0
  have HC : Sl _ := ⟨fun W : World => rcheckR_any a W⟩
  have hca : a.cells = #[.int .i64 a.n0, .int .i64 a.n1, .int .i64 a.n2, .int .i64 a.n3, .int .i64 a.n4, .int .i64 a.n5, .int .i64 a.d] := rfl
  rw [hca] at HC hu X0 X1 ⊢
  have HCE : Sl _ := ⟨hca⟩
  have x0 := X0.cell 0
  have x1 := X0.cell 1
  have x2 := X0.cell 2
  have x3 := X0.cell 3
  have x4 := X0.cell 4
  have x5 := X0.cell 5
  have x6 := X0.cell 6
  simp at x0 x1 x2 x3 x4 x5 x6
  have HU : Sl _ := ⟨And.intro hu (And.intro X0 X1)⟩
  clear hu X0 X1 hca
  obtain ⟨s, hs⟩ : ∃ s, powS a n d = s := ⟨_, rfl⟩
  rw [hs]
  have HSS : Sl _ := ⟨hs⟩
  obtain ⟨c, hc⟩ : ∃ c, checkS a = c := ⟨_, rfl⟩
  rw [hc] at HC
  have HK : Sl _ := ⟨hc⟩
  clear hs hc
  go_enter Tryz.func82, Tryz.ntmps82
  go_wp2_with fail
  clear x0 x1 x2 x3 x4 x5 x6
  generalize (w.alloc (.cells #[.int .i64 a.n0, .int .i64 a.n1, .int .i64 a.n2, .int .i64 a.n3, .int .i64 a.n4, .int .i64 a.n5, .int .i64 a.d] 35)).alloc (.cells #[.int .i64 0, .int .i64 0, .int .i64 0, .int .i64 0, .int .i64 0, .int .i64 0, .int .i64 0] 35) = w0 at *
  refine (HC.out _).mono ?_; rintro e w1 ⟨rfl, hb1⟩
  have hB := HU.out.1.trans (hb1.mono HU.out.1.size)
  have Xa := HU.out.2.1.below hb1 HU.out.2.1.lt
  have Z := HU.out.2.2.below hb1 HU.out.2.2.lt
  rw [← HCE.out] at Xa
  have HW : Sl _ := ⟨And.intro hB (And.intro Xa Z)⟩
  clear hB Xa Z hb1 HU HC
  by_cases h0 : c = 0
  · have hk := checkS_ok (HK.out.trans h0)
    have hsp : (okP n d → madeS (powR a n d) = s) ∧ (¬ okP n d → s = (RVzero, 2)) := by
      rw [← HSS.out]
      unfold powS
      rw [if_pos (HK.out.trans h0)]
      exact ⟨fun h => by rw [if_pos h], fun h => by rw [if_neg h]⟩
    have HSP : Sl _ := ⟨hsp⟩
    clear hsp HSS
    subst h0
    rcases okP_cases n d with hok | ⟨hno, hbad⟩
    · have hgood := powR_good HK.out hok
      have hsj : madeS (powR a n d) = s := HSP.out.1 hok
      have HG : Sl _ := ⟨And.intro hgood (And.intro hsj hk)⟩
      clear hgood hsj hk HSP
      obtain ⟨⟨hn1, hn2⟩, ⟨hd1, hd2⟩, hd0⟩ := hok
      have hne : (d == 0) = false := by rw [beq_eq_false_iff_ne]; exact hd0
      have t1 : ¬ n < -1000 := by omega
      have t2 : ¬ 1000 < n := by omega
      have t3 : ¬ d < -1000 := by omega
      have t4 : ¬ 1000 < d := by omega
      rcases Decidable.em (d < 0) with hdn | hdn
      · have hpw : powR a n d = RV.of (fun j => a.num j * (-n)) (a.d * (-d)) := by
          unfold powR
          simp only [hdn, if_true, if_false]
        obtain ⟨q, hq⟩ : ∃ q, powR a n d = q := ⟨_, rfl⟩
        rw [hq] at HG hpw
        have HPW : Sl _ := ⟨hpw.symm⟩
        clear hpw hq
        have hM1 : -1000 ≤ -n ∧ -n ≤ 1000 := by omega
        have hwM : IntKind.i64.wrap (-n) = -n := by rw [IntKind.wrap_i64]; omega
        have hwC : IntKind.i64.wrap (-d) = -d := by rw [IntKind.wrap_i64]; omega
        go_wp2_with fail
        clear hwM hwC
        generalize hMM : -n = M at *
        generalize hCC : -d = Cc at *
        go_loopw [41] (fun s41 wr => ∃ i : Nat, i ≤ 6 ∧ s41 = .int .i64 i ∧ Sl (Below w.heap.size w wr ∧ Blk wr w.heap.size 35 (RV.of (fun j => if j < i then a.num j * M else a.num j) a.d).cells ∧ Blk wr (w.heap.size + 1) 35 #[.int .i64 0, .int .i64 0, .int .i64 0, .int .i64 0, .int .i64 0, .int .i64 0, .int .i64 0])) (fun s41 _ => 6 - (RowKit.intOf s41).toNat)
        case atStart => exact ⟨0, by decide, rfl, ⟨HW.out.1, HW.out.2.1, HW.out.2.2⟩⟩
        case round =>
          clear HW
          obtain ⟨i, hi, rfl, HI⟩ := hrel
          by_cases hi6 : i < 6
          · obtain ⟨z, hz⟩ : ∃ z, a.num i = z := ⟨_, rfl⟩
            have cA : wr.cell? ⟨w.heap.size, i, none⟩ = some (.int .i64 z) := by rw [HI.out.2.1.cell, RV.of_cell _ _ hi6, if_neg (Nat.lt_irrefl _), hz]
            have hfz : wr.frozen? ⟨w.heap.size, i, none⟩ = false := HI.out.2.1.frozen i
            have p1 := inR_mul2 (HG.out.2.2.2.1 i hi6) hM1.1 hM1.2
            rw [hz] at p1
            obtain ⟨P, hP⟩ : ∃ P, z * M = P := ⟨_, rfl⟩
            rw [hP] at p1
            obtain ⟨p1a, p1b⟩ := p1
            have hwP : IntKind.i64.wrap P = P := by rw [IntKind.wrap_i64]; omega
            have hPn := HI.out.2.1.set_ i (.int .i64 P)
            rw [RV.of_set _ _ _ hi6, RV.of_congr a.d (fun j hj => (?_ : _ = if j < i + 1 then a.num j * M else a.num j))] at hPn
            rotate_left
            · by_cases h : j = i
              · rw [if_pos h, if_pos (by omega), h, hz, hP]
              · rw [if_neg h]
                by_cases h2 : j < i
                · rw [if_pos h2, if_pos (by omega)]
                · rw [if_neg h2, if_neg (by omega)]
            have HN : Sl _ := ⟨And.intro (HI.out.1.setCell (p := ⟨w.heap.size, i, none⟩) (Nat.le_refl _) (.int .i64 P)) (And.intro hPn (HI.out.2.2.far (p := ⟨w.heap.size, i, none⟩) (by show w.heap.size + 1 ≠ w.heap.size; omega) (.int .i64 P)))⟩
            clear hPn p1a p1b hz HI
            go_wp2_with fail
            refine ⟨?_, by simp [RowKit.intOf]; omega⟩
            repeat (first | exact ⟨i + 1, hi6, by go_num, HN⟩ | exact ⟨⟨i + 1, hi6, by go_num, HN⟩, rfl⟩ | exact ⟨i + 1, ⟨hi6, by go_num, HN⟩, rfl⟩ | apply Exists.intro)
          · obtain rfl : i = 6 := by omega
            clear hi6 hi
            have hmk : RV.of (fun j => if j < 6 then a.num j * M else a.num j) a.d = RV.of (fun j => a.num j * M) a.d := RV.of_congr a.d (fun j hj => if_pos hj)
            have Y4 := HI.out.2.1
            rw [hmk] at Y4
            have hq' : RV.of (fun j => a.num j * M) (a.d * Cc) = q := HPW.out
            have hcs : (RV.of (fun j => a.num j * M) a.d).cells = #[.int .i64 q.n0, .int .i64 q.n1, .int .i64 q.n2, .int .i64 q.n3, .int .i64 q.n4, .int .i64 q.n5, .int .i64 a.d] := by rw [← hq']; rfl
            rw [hcs] at Y4
            have hqd : a.d * Cc = q.d := by rw [← hq']; rfl
            have hM := fun W : World => rmade_any q W HG.out.1.1 HG.out.1.2.1 HG.out.1.2.2
            have hq1 := HG.out.1.1
            have hq2 := HG.out.1.2.1
            rw [HG.out.2.1] at hM
            have HI2 : Sl _ := ⟨And.intro HI.out.1 HI.out.2.2⟩
            clear hmk HI HG hcs hq' HPW
            unfold RV.nums at hM
            obtain ⟨r, er⟩ := s
            unfold OfRes RV.cells at hM
            have HM : Sl _ := ⟨hM⟩
            have x0 := Y4.cell 0
            have x1 := Y4.cell 1
            have x2 := Y4.cell 2
            have x3 := Y4.cell 3
            have x4 := Y4.cell 4
            have x5 := Y4.cell 5
            have x6 := Y4.cell 6
            simp at x0 x1 x2 x3 x4 x5 x6
            have hwq : IntKind.i64.wrap q.d = q.d := by rw [IntKind.wrap_i64]; omega
            clear hM Y4 hq1 hq2
            go_wp2_with fail
            refine (HM.out _).mono ?_; rintro e w3 ⟨rfl, hb3⟩
            have hB := HI2.out.1.trans (hb3.mono HI2.out.1.size)
            have Z := HI2.out.2.below hb3 HI2.out.2.lt
            clear x0 x1 x2 x3 x4 x5 x6
            have d0 := Z.cell 0
            have d1 := Z.cell 1
            have d2 := Z.cell 2
            have d3 := Z.cell 3
            have d4 := Z.cell 4
            have d5 := Z.cell 5
            have d6 := Z.cell 6
            simp at d0 d1 d2 d3 d4 d5 d6
            have f0 := Z.frozen 0
            have f1 := Z.frozen 1
            have f2 := Z.frozen 2
            have f3 := Z.frozen 3
            have f4 := Z.frozen 4
            have f5 := Z.frozen 5
            have f6 := Z.frozen 6
            have HFIN : Sl _ := ⟨And.intro hB Z⟩
            clear hB Z HM hb3
            go_wp2_with fail
            refine bodyPost_ret (results_rowR rfl _ _ (w.heap.size + 1) _ _ _ rfl (HFIN.out.2.seven _ _ _ _ _ _ _) Tryz.underlying35 rfl (by kernel_rfl)) rfl ?_
            exact ⟨rfl, below_seven HFIN.out.1 (Nat.le_succ _) _ _ _ _ _ _ _⟩
      · have hpw : powR a n d = RV.of (fun j => a.num j * (n)) (a.d * (d)) := by
          unfold powR
          simp only [hdn, if_true, if_false]
        obtain ⟨q, hq⟩ : ∃ q, powR a n d = q := ⟨_, rfl⟩
        rw [hq] at HG hpw
        have HPW : Sl _ := ⟨hpw.symm⟩
        clear hpw hq
        have hM1 : -1000 ≤ n ∧ n ≤ 1000 := by omega
        have hwM : IntKind.i64.wrap (-n) = -n := by rw [IntKind.wrap_i64]; omega
        have hwC : IntKind.i64.wrap (-d) = -d := by rw [IntKind.wrap_i64]; omega
        go_wp2_with fail
        clear hwM hwC
        generalize hMM : n = M at *
        generalize hCC : d = Cc at *
        go_loopw [41] (fun s41 wr => ∃ i : Nat, i ≤ 6 ∧ s41 = .int .i64 i ∧ Sl (Below w.heap.size w wr ∧ Blk wr w.heap.size 35 (RV.of (fun j => if j < i then a.num j * M else a.num j) a.d).cells ∧ Blk wr (w.heap.size + 1) 35 #[.int .i64 0, .int .i64 0, .int .i64 0, .int .i64 0, .int .i64 0, .int .i64 0, .int .i64 0])) (fun s41 _ => 6 - (RowKit.intOf s41).toNat)
        case atStart => exact ⟨0, by decide, rfl, ⟨HW.out.1, HW.out.2.1, HW.out.2.2⟩⟩
        case round =>
          clear HW
          obtain ⟨i, hi, rfl, HI⟩ := hrel
          by_cases hi6 : i < 6
          · obtain ⟨z, hz⟩ : ∃ z, a.num i = z := ⟨_, rfl⟩
            have cA : wr.cell? ⟨w.heap.size, i, none⟩ = some (.int .i64 z) := by rw [HI.out.2.1.cell, RV.of_cell _ _ hi6, if_neg (Nat.lt_irrefl _), hz]
            have hfz : wr.frozen? ⟨w.heap.size, i, none⟩ = false := HI.out.2.1.frozen i
            have p1 := inR_mul2 (HG.out.2.2.2.1 i hi6) hM1.1 hM1.2
            rw [hz] at p1
            obtain ⟨P, hP⟩ : ∃ P, z * M = P := ⟨_, rfl⟩
            rw [hP] at p1
            obtain ⟨p1a, p1b⟩ := p1
            have hwP : IntKind.i64.wrap P = P := by rw [IntKind.wrap_i64]; omega
            have hPn := HI.out.2.1.set_ i (.int .i64 P)
            rw [RV.of_set _ _ _ hi6, RV.of_congr a.d (fun j hj => (?_ : _ = if j < i + 1 then a.num j * M else a.num j))] at hPn
            rotate_left
            · by_cases h : j = i
              · rw [if_pos h, if_pos (by omega), h, hz, hP]
              · rw [if_neg h]
                by_cases h2 : j < i
                · rw [if_pos h2, if_pos (by omega)]
                · rw [if_neg h2, if_neg (by omega)]
            have HN : Sl _ := ⟨And.intro (HI.out.1.setCell (p := ⟨w.heap.size, i, none⟩) (Nat.le_refl _) (.int .i64 P)) (And.intro hPn (HI.out.2.2.far (p := ⟨w.heap.size, i, none⟩) (by show w.heap.size + 1 ≠ w.heap.size; omega) (.int .i64 P)))⟩
            clear hPn p1a p1b hz HI
            go_wp2_with fail
            refine ⟨?_, by simp [RowKit.intOf]; omega⟩
            repeat (first | exact ⟨i + 1, hi6, by go_num, HN⟩ | exact ⟨⟨i + 1, hi6, by go_num, HN⟩, rfl⟩ | exact ⟨i + 1, ⟨hi6, by go_num, HN⟩, rfl⟩ | apply Exists.intro)
          · obtain rfl : i = 6 := by omega
            clear hi6 hi
            have hmk : RV.of (fun j => if j < 6 then a.num j * M else a.num j) a.d = RV.of (fun j => a.num j * M) a.d := RV.of_congr a.d (fun j hj => if_pos hj)
            have Y4 := HI.out.2.1
            rw [hmk] at Y4
            have hq' : RV.of (fun j => a.num j * M) (a.d * Cc) = q := HPW.out
            have hcs : (RV.of (fun j => a.num j * M) a.d).cells = #[.int .i64 q.n0, .int .i64 q.n1, .int .i64 q.n2, .int .i64 q.n3, .int .i64 q.n4, .int .i64 q.n5, .int .i64 a.d] := by rw [← hq']; rfl
            rw [hcs] at Y4
            have hqd : a.d * Cc = q.d := by rw [← hq']; rfl
            have hM := fun W : World => rmade_any q W HG.out.1.1 HG.out.1.2.1 HG.out.1.2.2
            have hq1 := HG.out.1.1
            have hq2 := HG.out.1.2.1
            rw [HG.out.2.1] at hM
            have HI2 : Sl _ := ⟨And.intro HI.out.1 HI.out.2.2⟩
            clear hmk HI HG hcs hq' HPW
            unfold RV.nums at hM
            obtain ⟨r, er⟩ := s
            unfold OfRes RV.cells at hM
            have HM : Sl _ := ⟨hM⟩
            have x0 := Y4.cell 0
            have x1 := Y4.cell 1
            have x2 := Y4.cell 2
            have x3 := Y4.cell 3
            have x4 := Y4.cell 4
            have x5 := Y4.cell 5
            have x6 := Y4.cell 6
            simp at x0 x1 x2 x3 x4 x5 x6
            have hwq : IntKind.i64.wrap q.d = q.d := by rw [IntKind.wrap_i64]; omega
            clear hM Y4 hq1 hq2
            go_wp2_with fail
            refine (HM.out _).mono ?_; rintro e w3 ⟨rfl, hb3⟩
            have hB := HI2.out.1.trans (hb3.mono HI2.out.1.size)
            have Z := HI2.out.2.below hb3 HI2.out.2.lt
            clear x0 x1 x2 x3 x4 x5 x6
            have d0 := Z.cell 0
            have d1 := Z.cell 1
            have d2 := Z.cell 2
            have d3 := Z.cell 3
            have d4 := Z.cell 4
            have d5 := Z.cell 5
            have d6 := Z.cell 6
            simp at d0 d1 d2 d3 d4 d5 d6
            have f0 := Z.frozen 0
            have f1 := Z.frozen 1
            have f2 := Z.frozen 2
            have f3 := Z.frozen 3
            have f4 := Z.frozen 4
            have f5 := Z.frozen 5
            have f6 := Z.frozen 6
            have HFIN : Sl _ := ⟨And.intro hB Z⟩
            clear hB Z HM hb3
            go_wp2_with fail
            refine bodyPost_ret (results_rowR rfl _ _ (w.heap.size + 1) _ _ _ rfl (HFIN.out.2.seven _ _ _ _ _ _ _) Tryz.underlying35 rfl (by kernel_rfl)) rfl ?_
            exact ⟨rfl, below_seven HFIN.out.1 (Nat.le_succ _) _ _ _ _ _ _ _⟩
    · have HZR : Sl (s = (RVzero, 2)) := ⟨HSP.out.2 hno⟩
      clear hno HSP hk
      have d0 := HW.out.2.2.cell 0
      have d1 := HW.out.2.2.cell 1
      have d2 := HW.out.2.2.cell 2
      have d3 := HW.out.2.2.cell 3
      have d4 := HW.out.2.2.cell 4
      have d5 := HW.out.2.2.cell 5
      have d6 := HW.out.2.2.cell 6
      simp at d0 d1 d2 d3 d4 d5 d6
      have f0 := HW.out.2.2.frozen 0
      have f1 := HW.out.2.2.frozen 1
      have f2 := HW.out.2.2.frozen 2
      have f3 := HW.out.2.2.frozen 3
      have f4 := HW.out.2.2.frozen 4
      have f5 := HW.out.2.2.frozen 5
      have f6 := HW.out.2.2.frozen 6
      rcases hbad with h | ⟨h, h2⟩ | ⟨h, h2, h3⟩ | ⟨h, h2, h3, h4⟩ | ⟨h, h2, h3, h4, rfl⟩
      all_goals (
        go_wp2_with fail
        refine bodyPost_ret (results_rowR rfl _ _ (w.heap.size + 1) _ _ _ rfl (HW.out.2.2.seven _ _ _ _ _ _ _) Tryz.underlying35 rfl (by kernel_rfl)) rfl ?_
        exact ⟨by rw [HZR.out]; rfl, below_seven HW.out.1 (Nat.le_succ _) _ _ _ _ _ _ _⟩)
  · have hcz : (c != 0) = true := by rw [bne_iff_ne]; exact h0
    have HZR : Sl (s = (RVzero, c)) := ⟨by
      rw [← HSS.out]
      unfold powS
      rw [HK.out, if_neg h0]⟩
    have d0 := HW.out.2.2.cell 0
    have d1 := HW.out.2.2.cell 1
    have d2 := HW.out.2.2.cell 2
    have d3 := HW.out.2.2.cell 3
    have d4 := HW.out.2.2.cell 4
    have d5 := HW.out.2.2.cell 5
    have d6 := HW.out.2.2.cell 6
    simp at d0 d1 d2 d3 d4 d5 d6
    have f0 := HW.out.2.2.frozen 0
    have f1 := HW.out.2.2.frozen 1
    have f2 := HW.out.2.2.frozen 2
    have f3 := HW.out.2.2.frozen 3
    have f4 := HW.out.2.2.frozen 4
    have f5 := HW.out.2.2.frozen 5
    have f6 := HW.out.2.2.frozen 6
    go_wp2_with fail
    refine bodyPost_ret (results_rowR rfl _ _ (w.heap.size + 1) _ _ _ rfl (HW.out.2.2.seven _ _ _ _ _ _ _) Tryz.underlying35 rfl (by kernel_rfl)) rfl ?_
    exact ⟨by rw [HZR.out]; rfl, below_seven HW.out.1 (Nat.le_succ _) _ _ _ _ _ _ _⟩
end Go.Proofs.YtmcoadmnkelkkaaGreatDoor
