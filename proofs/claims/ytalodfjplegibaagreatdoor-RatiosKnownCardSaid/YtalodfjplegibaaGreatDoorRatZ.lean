/- Package ratios: made. Package ratios: first. Package ratios: first, joined. -/
import Derived.Test.YtalodfjplegibaaGreatDoorRatW
import Derived.Deep.RegionHeld3
namespace Go.Proofs.YtalodfjplegibaaGreatDoor
set_option linter.unusedSimpArgs false
open Go.RowKit
set_option linter.unusedVariables false

set_option maxHeartbeats 3200000 in
set_option maxRecDepth 100000 in
theorem rmade_any (r : RV) (w : World) (h1 : 1 ≤ r.d) (h2 : r.d ≤ 1000000) (h3 : ∀ i, i < 6 → -1000000000 ≤ r.num i ∧ r.num i ≤ 1000000000) :
    Calls Tryz.prog 28 #[.agg r.nums, .int .i64 r.d] w fun e w' => OfRes e (madeS r) ∧ Below w.heap.size w w' := by
  obtain ⟨s, hs⟩ : ∃ s, madeS r = s := ⟨_, rfl⟩
  rw [hs]
  have HSS : Sl _ := ⟨hs⟩
  clear hs
  have hu := ((Below.refl w.heap.size w).alloc (Nat.le_refl _) (.cells r.nums 22)).alloc (by simp) (.cells RVzero.cells 24)
  have X0 := (Blk.new w 22 r.nums).alloc (.cells RVzero.cells 24)
  have X1 := Blk.new (w.alloc (.cells r.nums 22)) 24 RVzero.cells
  rw [show (w.alloc (.cells r.nums 22)).heap.size = w.heap.size + 1 by simp] at X1
  have hidx := fun (W : World) (i : Nat) (hi : i < 6) => index6 W r hi
  unfold RV.nums at *
  rw [RVzero_cells] at hu X0 X1
  have HU : Sl _ := ⟨And.intro hu (And.intro X0 X1)⟩
  clear hu X0 X1
  have H3 : Sl _ := ⟨h3⟩
  have HC : Sl _ := ⟨fun W : World => rcheckR_any (mkR r) W⟩
  clear h3
  go_enter Tryz.func28, Tryz.ntmps28
  go_wp2_with fail
  generalize (w.alloc (.cells #[.int .i64 r.n0, .int .i64 r.n1, .int .i64 r.n2, .int .i64 r.n3, .int .i64 r.n4, .int .i64 r.n5] 22)).alloc (.cells #[.int .i64 0, .int .i64 0, .int .i64 0, .int .i64 0, .int .i64 0, .int .i64 0, .int .i64 0] 24) = w0 at *
  go_loopw [6, 14] (fun s6 s14 wr => ∃ i : Nat, i ≤ 6 ∧ s14 = .int .i64 i ∧ s6 = .int .i64 (r.gcd i : Nat) ∧ Sl (Below w.heap.size w wr ∧ Blk wr w.heap.size 22 #[.int .i64 r.n0, .int .i64 r.n1, .int .i64 r.n2, .int .i64 r.n3, .int .i64 r.n4, .int .i64 r.n5] ∧ Blk wr (w.heap.size + 1) 24 #[.int .i64 0, .int .i64 0, .int .i64 0, .int .i64 0, .int .i64 0, .int .i64 0, .int .i64 0])) (fun _ s14 _ => 6 - (RowKit.intOf s14).toNat)
  case atStart => exact ⟨0, by decide, rfl, ret_val (by show r.d = ((r.d.natAbs : Nat) : Int); omega), ⟨HU.out⟩⟩
  case round =>
    clear HU
    obtain ⟨i, hi, rfl, rfl, HR⟩ := hrel
    by_cases hi6 : i < 6
    · have hix := fun W : World => hidx W i hi6
      obtain ⟨z, hz⟩ : ∃ z, r.num i = z := ⟨_, rfl⟩
      obtain ⟨g, hg⟩ : ∃ g, r.gcd i = g := ⟨_, rfl⟩
      obtain ⟨g', hg'⟩ : ∃ g', r.gcd (i + 1) = g' := ⟨_, rfl⟩
      rw [hz] at hix
      have hgp := RV.gcd_pos (r := r) (by omega) i
      rw [hg] at hgp
      have hgd : Nat.gcd g z.natAbs = g' := by rw [← hg', ← hg, ← hz]; rfl
      have hzb := H3.out i hi6
      rw [hz] at hzb
      rw [hg]
      have HZ : Sl _ := ⟨And.intro hz (And.intro hg hg')⟩
      clear hidx hz hg hg'
      have HS : Sl _ := ⟨fun W : World => rsize_any z W (by omega) (by omega)⟩
      have HG : Sl _ := ⟨fun W : World => rgcd_any g z.natAbs W (by omega) (by omega)⟩
      rw [hgd] at HG
      clear hgd hgp hzb
      generalize z.natAbs = za at *
      go_wp2_with fail
      refine (HS.out _).mono ?_; rintro e w1 ⟨rfl, rfl⟩
      go_wp2_with fail
      refine (HG.out _).mono ?_; rintro e w2 ⟨rfl, dn, rfl⟩
      go_wp2_with fail
      refine ⟨⟨i + 1, hi6, by go_num, ret_val (by rw [HZ.out.2.2]), ⟨below_drewN HR.out.1 dn, HR.out.2.1.below (below_drewN (Below.refl _ _) dn) HR.out.2.1.lt, HR.out.2.2.below (below_drewN (Below.refl _ _) dn) HR.out.2.2.lt⟩⟩, by simp [RowKit.intOf]; omega⟩
    · obtain rfl : i = 6 := by omega
      clear hi6 hi
      have hgp := (RV.gcd_pos (r := r) (by omega) 6)
      obtain ⟨g, hg⟩ : ∃ g, r.gcd 6 = g := ⟨_, rfl⟩
      rw [hg] at hgp ⊢
      have hgz : ¬ (g : Int) = 0 := by omega
      obtain ⟨dd, hdd⟩ : ∃ dd, r.d.tdiv (g : Int) = dd := ⟨_, rfl⟩
      have hddb : 1 ≤ dd ∧ dd ≤ 1000000 := by
        have e := tdiv_abs (z := r.d) hgp.1 (by rw [← hg]; exact (RV.gcd_dvd r 6).1)
        rw [hdd] at e
        have p : 0 ≤ dd := by rw [← hdd]; exact Int.tdiv_nonneg (by omega) (by omega)
        have l := Nat.le_mul_of_pos_right dd.natAbs hgp.1
        refine ⟨?_, by omega⟩
        rcases Int.lt_or_le 0 dd with h | h
        · omega
        · rw [show dd = 0 by omega] at e
          simp at e
          omega
      obtain ⟨hdd1, hdd2⟩ := hddb
      have q0 := fun ob => (HR.out.2.1.alloc ob).cell 0
      have q1 := fun ob => (HR.out.2.1.alloc ob).cell 1
      have q2 := fun ob => (HR.out.2.1.alloc ob).cell 2
      have q3 := fun ob => (HR.out.2.1.alloc ob).cell 3
      have q4 := fun ob => (HR.out.2.1.alloc ob).cell 4
      have q5 := fun ob => (HR.out.2.1.alloc ob).cell 5
      simp at q0 q1 q2 q3 q4 q5
      have hlt := HR.out.2.2.lt
      have hB := HR.out.1.alloc (by omega) (.cells #[.int .i64 0, .int .i64 0, .int .i64 0, .int .i64 0, .int .i64 0, .int .i64 0, .int .i64 dd] 24)
      have Y1 := HR.out.2.2.alloc (.cells #[.int .i64 0, .int .i64 0, .int .i64 0, .int .i64 0, .int .i64 0, .int .i64 0, .int .i64 dd] 24)
      have Y2 := Blk.new wr 24 #[.int .i64 0, .int .i64 0, .int .i64 0, .int .i64 0, .int .i64 0, .int .i64 0, .int .i64 dd]
      have H2 : Sl _ := ⟨And.intro hB (And.intro Y1 Y2)⟩
      have HL : Sl _ := ⟨And.intro hlt hgp⟩
      have HG : Sl _ := ⟨And.intro hg hdd⟩
      clear hlt hB Y1 Y2 hgp hg
      go_wp2_with fail
      clear q0 q1 q2 q3 q4 q5 HR
      generalize hg7 : wr.heap.size = g7 at *
      generalize wr.alloc (.cells #[.int .i64 0, .int .i64 0, .int .i64 0, .int .i64 0, .int .i64 0, .int .i64 0, .int .i64 dd] 24) = w2 at *
      clear hg7
      go_loopw [27] (fun s27 wq => ∃ i : Nat, i ≤ 6 ∧ s27 = .int .i64 i ∧ Sl (Below w.heap.size w wq ∧ Blk wq (w.heap.size + 1) 24 #[.int .i64 0, .int .i64 0, .int .i64 0, .int .i64 0, .int .i64 0, .int .i64 0, .int .i64 0] ∧ Blk wq g7 24 (RV.of (fun j => if j < i then (r.num j).tdiv (g : Int) else 0) dd).cells)) (fun s27 _ => 6 - (RowKit.intOf s27).toNat)
      case atStart => exact ⟨0, by decide, rfl, ⟨H2.out⟩⟩
      case round =>
        obtain ⟨i, hi, rfl, HI⟩ := hrel
        by_cases hi6 : i < 6
        · have hix := fun W : World => hidx W i hi6
          obtain ⟨z, hz⟩ : ∃ z, r.num i = z := ⟨_, rfl⟩
          rw [hz] at hix
          obtain ⟨y, hy⟩ : ∃ y, z.tdiv (g : Int) = y := ⟨_, rfl⟩
          have hyb : -1000000000 ≤ y ∧ y ≤ 1000000000 := by
            have hb := H3.out i hi6
            rw [hz] at hb
            have e := tdiv_abs (z := z) HL.out.2.1 (by rw [← HG.out.1, ← hz]; exact (RV.gcd_dvd r 6).2 i hi6)
            rw [hy] at e
            have l := Nat.le_mul_of_pos_right y.natAbs HL.out.2.1
            omega
          obtain ⟨hy1, hy2⟩ := hyb
          have hfz : wr.frozen? ⟨g7, i, none⟩ = false := HI.out.2.2.frozen i
          have hcell : wr.cell? ⟨g7, i, none⟩ = some (.int .i64 0) := by
            rw [HI.out.2.2.cell, RV.of_cell _ _ hi6, if_neg (Nat.lt_irrefl _)]
          have hP := HI.out.2.2.set_ i (.int .i64 y)
          rw [RV.of_set _ _ _ hi6, RV.of_congr dd (fun j hj => (?_ : _ = if j < i + 1 then (r.num j).tdiv (g : Int) else 0))] at hP
          rotate_left
          · by_cases h : j = i
            · rw [if_pos h, if_pos (by omega), h, hz, hy]
            · rw [if_neg h]
              by_cases h2 : j < i
              · rw [if_pos h2, if_pos (by omega)]
              · rw [if_neg h2, if_neg (by omega)]
          have hne : w.heap.size + 1 ≠ g7 := by have := HL.out.1; omega
          have HN : Sl _ := ⟨And.intro (HI.out.1.setCell (p := ⟨g7, i, none⟩) (by have := HL.out.1; show w.heap.size ≤ g7; omega) (.int .i64 y)) (And.intro (HI.out.2.1.far (p := ⟨g7, i, none⟩) hne (.int .i64 y)) hP)⟩
          have HFZ : Sl _ := ⟨hfz⟩
          clear hP hne hidx HI
          go_wp2_with fail
          refine ⟨?_, by simp [RowKit.intOf]; omega⟩
          repeat (first | exact ⟨i + 1, hi6, by go_num, HN⟩ | exact ⟨⟨i + 1, hi6, by go_num, HN⟩, rfl⟩ | exact ⟨i + 1, ⟨hi6, by go_num, HN⟩, rfl⟩ | apply Exists.intro)
        · obtain rfl : i = 6 := by omega
          clear hi6 hi hidx
          have hmk : RV.of (fun j => if j < 6 then (r.num j).tdiv (g : Int) else 0) dd = mkR r := by
            unfold mkR; rw [HG.out.1, HG.out.2]; exact RV.of_congr dd (fun j hj => if_pos hj)
          have Y2 := HI.out.2.2
          rw [hmk] at Y2
          have hk := madeS_check r h1
          rw [HSS.out] at hk
          generalize mkR r = q at *
          unfold RV.cells at Y2 HC
          have hB := HI.out.1
          have Y1 := HI.out.2.1
          have x0 := Y2.cell 0
          have x1 := Y2.cell 1
          have x2 := Y2.cell 2
          have x3 := Y2.cell 3
          have x4 := Y2.cell 4
          have x5 := Y2.cell 5
          have x6 := Y2.cell 6
          simp at x0 x1 x2 x3 x4 x5 x6
          have H5 : Sl _ := ⟨And.intro hB (And.intro Y1 Y2)⟩
          have HK : Sl _ := ⟨hk⟩
          clear hk hB Y1 Y2 HI H2 hmk HG
          go_wp2_with fail
          refine (HC.out wr).mono ?_; rintro e w3 ⟨rfl, hb3⟩
          clear x0 x1 x2 x3 x4 x5 x6
          have Y1 := H5.out.2.1.below hb3 H5.out.2.1.lt
          have Y2 := H5.out.2.2.below hb3 H5.out.2.2.lt
          have hB := H5.out.1.trans (hb3.mono H5.out.1.size)
          have x0 := Y2.cell 0
          have x1 := Y2.cell 1
          have x2 := Y2.cell 2
          have x3 := Y2.cell 3
          have x4 := Y2.cell 4
          have x5 := Y2.cell 5
          have x6 := Y2.cell 6
          simp at x0 x1 x2 x3 x4 x5 x6
          have d0 := Y1.cell 0
          have d1 := Y1.cell 1
          have d2 := Y1.cell 2
          have d3 := Y1.cell 3
          have d4 := Y1.cell 4
          have d5 := Y1.cell 5
          have d6 := Y1.cell 6
          simp at d0 d1 d2 d3 d4 d5 d6
          have f0 := Y1.frozen 0
          have f1 := Y1.frozen 1
          have f2 := Y1.frozen 2
          have f3 := Y1.frozen 3
          have f4 := Y1.frozen 4
          have f5 := Y1.frozen 5
          have f6 := Y1.frozen 6
          have HFIN : Sl _ := ⟨And.intro hB Y1⟩
          clear hB Y1 Y2 H5 hb3 HC
          obtain ⟨c, hc⟩ : ∃ c, checkS q = c := ⟨_, rfl⟩
          rw [hc] at HK ⊢
          by_cases h0 : c = 0
          · subst h0
            have HZR : Sl (s = (q, 0)) := ⟨HK.out.1 rfl⟩
            go_wp2_with fail
            refine bodyPost_ret (results_rowR rfl _ _ (w.heap.size + 1) _ _ _ rfl (HFIN.out.2.seven _ _ _ _ _ _ _) Tryz.underlying24 rfl (by kernel_rfl)) rfl ?_
            exact ⟨by rw [HZR.out]; rfl, below_seven HFIN.out.1 (Nat.le_succ _) _ _ _ _ _ _ _⟩
          · have hcz : (c == 0) = false := by rw [beq_eq_false_iff_ne]; exact h0
            have HZR : Sl (s = (RVzero, 7)) := ⟨HK.out.2 h0⟩
            go_wp2_with fail
            refine bodyPost_ret (results_rowR rfl _ _ (w.heap.size + 1) _ _ _ rfl (HFIN.out.2.seven _ _ _ _ _ _ _) Tryz.underlying24 rfl (by kernel_rfl)) rfl ?_
            exact ⟨by rw [HZR.out]; rfl, below_seven HFIN.out.1 (Nat.le_succ _) _ _ _ _ _ _ _⟩
end Go.Proofs.YtalodfjplegibaaGreatDoor
namespace Go.Proofs.YtalodfjplegibaaGreatDoor
set_option linter.unusedSimpArgs false
open Go.RowKit
set_option linter.unusedVariables false

theorem rcmpor_any (g : Nat) (t : TypeId) (a b : Int) (n : Nat) (w : World) (hB : Blk w g t #[.int .i64 a, .int .i64 b]) :
    Calls Tryz.prog 101 #[.slice (some ⟨g, 0, none⟩) 2 n] w fun e w' => e = .returned (.int .i64 (firstE a b)) ∧ ∃ m, w' = w.drewN m := by
  obtain ⟨s, hs⟩ : ∃ s, firstE a b = s := ⟨_, rfl⟩
  rw [hs]
  unfold firstE at hs
  have c0 := fun k => show (w.drewN k).cell? ⟨g, 0, none⟩ = some (.int .i64 a) from (hB.below (below_drewN (Below.refl _ _) k) hB.lt).cell 0
  have c1 := fun k => show (w.drewN k).cell? ⟨g, 1, none⟩ = some (.int .i64 b) from (hB.below (below_drewN (Below.refl _ _) k) hB.lt).cell 1
  have HB : Sl _ := ⟨And.intro hB hs⟩
  clear hs hB
  go_enter Tryz.func101, Tryz.ntmps101
  go_wp2_with fail
  go_loopw [8] (fun s8 wr => ∃ i : Nat, i ≤ 2 ∧ s8 = .int .i64 i ∧ Sl ((∀ j, j < i → (if j = 0 then a else b) = 0) ∧ ∃ m, wr = w.drewN m)) (fun s8 _ => 2 - (RowKit.intOf s8).toNat)
  case atStart => exact ⟨0, Nat.zero_le _, rfl, ⟨fun j hj => absurd hj (Nat.not_lt_zero _), 0, rfl⟩⟩
  case round =>
    obtain ⟨i, hi, rfl, HR⟩ := hrel
    obtain ⟨m, rfl⟩ := HR.out.2
    have h3 : i = 0 ∨ i = 1 ∨ i = 2 := by omega
    rcases h3 with rfl | rfl | rfl
    · by_cases h0 : a = 0
      · subst h0
        go_wp2_with fail
        repeat (first | exact ⟨⟨1, by decide, rfl, ⟨fun j hj => by rw [if_pos (by omega)], m, rfl⟩⟩, by simp [RowKit.intOf]⟩ | fail)
      · have hz : (a != 0) = true := by rw [bne_iff_ne]; exact h0
        have HS : Sl (a = s) := ⟨by rw [← HB.out.2, if_neg h0]⟩
        go_wp2_with fail
        go_ret
        exact ⟨by rw [HS.out]; rfl, m, rfl⟩
    · have ha : a = 0 := by have := HR.out.1 0 (by decide); rwa [if_pos rfl] at this
      by_cases h0 : b = 0
      · subst h0
        go_wp2_with fail
        repeat (first | exact ⟨⟨2, by decide, rfl, ⟨fun j hj => by split; exact ha; rfl, m, rfl⟩⟩, by simp [RowKit.intOf]⟩ | fail)
      · have hz : (b != 0) = true := by rw [bne_iff_ne]; exact h0
        have HS : Sl (b = s) := ⟨by rw [← HB.out.2, if_pos ha]⟩
        go_wp2_with fail
        go_ret
        exact ⟨by rw [HS.out]; rfl, m, rfl⟩
    · have HS : Sl (0 = s) := ⟨by
        have h1 := HR.out.1 0 (by decide)
        have h2 := HR.out.1 1 (by decide)
        rw [if_pos rfl] at h1
        rw [if_neg (by decide)] at h2
        rw [← HB.out.2, if_pos h1, h2]⟩
      go_wp2_with fail
      go_ret
      exact ⟨by rw [HS.out]; rfl, m, rfl⟩
end Go.Proofs.YtalodfjplegibaaGreatDoor
namespace Go.Proofs.YtalodfjplegibaaGreatDoor
set_option linter.unusedSimpArgs false
open Go.RowKit
set_option linter.unusedVariables false

theorem RV.of_nset (f : Nat → Int) (d z : Int) {i : Nat} (hi : i < 6) : (RV.of f d).nums.setIfInBounds i (.int .i64 z) = (RV.of (fun j => if j = i then z else f j) d).nums := by
  have h6 : i = 0 ∨ i = 1 ∨ i = 2 ∨ i = 3 ∨ i = 4 ∨ i = 5 := by omega
  rcases h6 with rfl | rfl | rfl | rfl | rfl | rfl <;> rfl
theorem RV.of_ncell (f : Nat → Int) (d : Int) {i : Nat} (hi : i < 6) : (RV.of f d).nums[i]? = some (.int .i64 (f i)) := by
  have h6 : i = 0 ∨ i = 1 ∨ i = 2 ∨ i = 3 ∨ i = 4 ∨ i = 5 := by omega
  rcases h6 with rfl | rfl | rfl | rfl | rfl | rfl <;> rfl
theorem RV.ccell (r : RV) {i : Nat} (hi : i < 6) : r.cells[i]? = some (.int .i64 (r.num i)) := by
  have h6 : i = 0 ∨ i = 1 ∨ i = 2 ∨ i = 3 ∨ i = 4 ∨ i = 5 := by omega
  rcases h6 with rfl | rfl | rfl | rfl | rfl | rfl <;> rfl
theorem RV.dcell (r : RV) : r.cells[6]? = some (.int .i64 r.d) := rfl
theorem inR_mul {x d : Int} (hx : inR x) (h1 : 1 ≤ d) (h2 : d ≤ 1000) : -100000000 ≤ x * d ∧ x * d ≤ 100000000 := by
  have l1 := hx.1
  have l2 := hx.2
  constructor
  · have e1 : -100000 * d ≤ x * d := Int.mul_le_mul_of_nonneg_right l1 (by omega)
    omega
  · have e1 : x * d ≤ 100000 * d := Int.mul_le_mul_of_nonneg_right l2 (by omega)
    omega
theorem rfirst_any (g : Nat) (t : TypeId) (a b : Int) (n : Nat) (w : World) (hB : Blk w g t #[.int .i64 a, .int .i64 b]) :
    Calls Tryz.prog 72 #[.slice (some ⟨g, 0, none⟩) 2 n] w fun e w' => e = .returned (.int .i64 (firstE a b)) ∧ ∃ m, w' = w.drewN m := by
  have HO : Sl _ := ⟨rcmpor_any g t a b n w hB⟩
  clear hB
  go_enter Tryz.func72, Tryz.ntmps72
  go_wp2_with fail
  refine HO.out.mono ?_; rintro e w1 ⟨rfl, m, rfl⟩
  go_wp2_with fail
  go_ret
  exact ⟨rfl, m, rfl⟩
set_option maxHeartbeats 3200000 in
set_option maxRecDepth 100000 in
theorem rjoined_any (a b : RV) (y : Int) (hy : y = 1 ∨ y = -1) (w : World) :
    Calls Tryz.prog 53 #[.agg a.cells, .agg b.cells, .int .i64 y] w fun e w' => OfRes e (joinS a b y) ∧ Below w.heap.size w w' := by
  obtain ⟨s, hs⟩ : ∃ s, joinS a b y = s := ⟨_, rfl⟩
  rw [hs]
  have HSS : Sl _ := ⟨hs⟩
  clear hs
  have hu := (((Below.refl w.heap.size w).alloc (Nat.le_refl _) (.cells a.cells 24)).alloc (by simp) (.cells b.cells 24)).alloc (by simp; omega) (.cells RVzero.cells 24)
  have X0 := ((Blk.new w 24 a.cells).alloc (.cells b.cells 24)).alloc (.cells RVzero.cells 24)
  have X1 := (Blk.new (w.alloc (.cells a.cells 24)) 24 b.cells).alloc (.cells RVzero.cells 24)
  have X2 := Blk.new ((w.alloc (.cells a.cells 24)).alloc (.cells b.cells 24)) 24 RVzero.cells
  rw [show (w.alloc (.cells a.cells 24)).heap.size = w.heap.size + 1 by simp] at X1
  rw [show ((w.alloc (.cells a.cells 24)).alloc (.cells b.cells 24)).heap.size = w.heap.size + 1 + 1 by simp] at X2
  have HU : Sl _ := ⟨And.intro hu (And.intro X0 (And.intro X1 X2))⟩
  rw [RVzero_cells] at HU
  clear hu X0 X1 X2
  have HCA : Sl _ := ⟨fun W : World => rcheckR_any a W⟩
  have HCB : Sl _ := ⟨fun W : World => rcheckR_any b W⟩
  obtain ⟨ea, hea⟩ : ∃ c, checkS a = c := ⟨_, rfl⟩
  obtain ⟨eb, heb⟩ : ∃ c, checkS b = c := ⟨_, rfl⟩
  rw [hea] at HCA
  rw [heb] at HCB
  have hKA := hea
  have hKB := heb
  have HE : Sl _ := ⟨And.intro hea heb⟩
  clear hea heb hKA hKB
  have hca : a.cells = #[.int .i64 a.n0, .int .i64 a.n1, .int .i64 a.n2, .int .i64 a.n3, .int .i64 a.n4, .int .i64 a.n5, .int .i64 a.d] := rfl
  have hcb : b.cells = #[.int .i64 b.n0, .int .i64 b.n1, .int .i64 b.n2, .int .i64 b.n3, .int .i64 b.n4, .int .i64 b.n5, .int .i64 b.d] := rfl
  rw [hca] at HCA HU ⊢
  rw [hcb] at HCB HU ⊢
  have HCE : Sl _ := ⟨And.intro hca hcb⟩
  have HY : Sl _ := ⟨hy⟩
  clear hca hcb hy
  go_enter Tryz.func53, Tryz.ntmps53
  go_wp2_with fail
  generalize ((w.alloc (.cells #[.int .i64 a.n0, .int .i64 a.n1, .int .i64 a.n2, .int .i64 a.n3, .int .i64 a.n4, .int .i64 a.n5, .int .i64 a.d] 24)).alloc (.cells #[.int .i64 b.n0, .int .i64 b.n1, .int .i64 b.n2, .int .i64 b.n3, .int .i64 b.n4, .int .i64 b.n5, .int .i64 b.d] 24)).alloc (.cells #[.int .i64 0, .int .i64 0, .int .i64 0, .int .i64 0, .int .i64 0, .int .i64 0, .int .i64 0] 24) = w0 at *
  have HS : Sl (∀ w' : World, RowKit.Below w0.heap.size w0 w' → w'.cell? ⟨w.heap.size, 0, none⟩ = some (.int .i64 a.n0) ∧ w'.cell? ⟨w.heap.size, 1, none⟩ = some (.int .i64 a.n1) ∧ w'.cell? ⟨w.heap.size, 2, none⟩ = some (.int .i64 a.n2) ∧ w'.cell? ⟨w.heap.size, 3, none⟩ = some (.int .i64 a.n3) ∧ w'.cell? ⟨w.heap.size, 4, none⟩ = some (.int .i64 a.n4) ∧ w'.cell? ⟨w.heap.size, 5, none⟩ = some (.int .i64 a.n5) ∧ w'.cell? ⟨w.heap.size, 6, none⟩ = some (.int .i64 a.d) ∧ w'.cell? ⟨w.heap.size + 1, 0, none⟩ = some (.int .i64 b.n0) ∧ w'.cell? ⟨w.heap.size + 1, 1, none⟩ = some (.int .i64 b.n1) ∧ w'.cell? ⟨w.heap.size + 1, 2, none⟩ = some (.int .i64 b.n2) ∧ w'.cell? ⟨w.heap.size + 1, 3, none⟩ = some (.int .i64 b.n3) ∧ w'.cell? ⟨w.heap.size + 1, 4, none⟩ = some (.int .i64 b.n4) ∧ w'.cell? ⟨w.heap.size + 1, 5, none⟩ = some (.int .i64 b.n5) ∧ w'.cell? ⟨w.heap.size + 1, 6, none⟩ = some (.int .i64 b.d)) := ⟨fun w' h => by
    have e1 := HU.out.2.1.below h HU.out.2.1.lt
    have e2 := HU.out.2.2.1.below h HU.out.2.2.1.lt
    exact ⟨e1.cell 0, e1.cell 1, e1.cell 2, e1.cell 3, e1.cell 4, e1.cell 5, e1.cell 6, e2.cell 0, e2.cell 1, e2.cell 2, e2.cell 3, e2.cell 4, e2.cell 5, e2.cell 6⟩⟩
  have HF : Sl _ := ⟨fun W : World => rfirst_any W.heap.size 25 ea eb 2 (W.alloc (.cells #[.int .i64 ea, .int .i64 eb] 25)) (Blk.new W 25 #[.int .i64 ea, .int .i64 eb])⟩
  have hs : RowKit.Below w0.heap.size w0 w0.drew := below_drewN (Below.refl _ _) 1
  go_region_held3 (fun w' : World => w'.cell? ⟨w.heap.size, 0, none⟩ = some (.int .i64 a.n0) ∧ w'.cell? ⟨w.heap.size, 1, none⟩ = some (.int .i64 a.n1) ∧ w'.cell? ⟨w.heap.size, 2, none⟩ = some (.int .i64 a.n2) ∧ w'.cell? ⟨w.heap.size, 3, none⟩ = some (.int .i64 a.n3) ∧ w'.cell? ⟨w.heap.size, 4, none⟩ = some (.int .i64 a.n4) ∧ w'.cell? ⟨w.heap.size, 5, none⟩ = some (.int .i64 a.n5) ∧ w'.cell? ⟨w.heap.size, 6, none⟩ = some (.int .i64 a.d) ∧ w'.cell? ⟨w.heap.size + 1, 0, none⟩ = some (.int .i64 b.n0) ∧ w'.cell? ⟨w.heap.size + 1, 1, none⟩ = some (.int .i64 b.n1) ∧ w'.cell? ⟨w.heap.size + 1, 2, none⟩ = some (.int .i64 b.n2) ∧ w'.cell? ⟨w.heap.size + 1, 3, none⟩ = some (.int .i64 b.n3) ∧ w'.cell? ⟨w.heap.size + 1, 4, none⟩ = some (.int .i64 b.n4) ∧ w'.cell? ⟨w.heap.size + 1, 5, none⟩ = some (.int .i64 b.n5) ∧ w'.cell? ⟨w.heap.size + 1, 6, none⟩ = some (.int .i64 b.d))
    (first | (refine HS.out _ ?_; assumption) | (refine HS.out _ ?_; exact hs.alloc hs.size _) | fail)
    (first
      | (go_at_call 42; (with_reducible refine (HCA.out _).mono ?_); rintro e wz ⟨rfl, hb⟩; have hs := hs.trans (hb.mono hs.size))
      | (go_at_call 42; (with_reducible refine (HCB.out _).mono ?_); rintro e wz ⟨rfl, hb⟩; have hs := hs.trans (hb.mono hs.size))
      | (go_at_call 72; (with_reducible refine (HF.out _).mono ?_); rintro e wz ⟨rfl, m, rfl⟩; have hs := below_drewN (hs.alloc hs.size (.cells #[.int .i64 ea, .int .i64 eb] 25)) m)
      | fail)
  all_goals (
    have hB := HU.out.1.trans (hs.mono HU.out.1.size)
    have Xa := HU.out.2.1.below hs HU.out.2.1.lt
    have Xb := HU.out.2.2.1.below hs HU.out.2.2.1.lt
    have Xz := HU.out.2.2.2.below hs HU.out.2.2.2.lt
    have HW : Sl _ := ⟨And.intro hB (And.intro Xa (And.intro Xb Xz))⟩
    clear hB Xa Xb Xz HS HF HCA HCB HU hs
    generalize (wz.alloc (.cells #[.int .i64 ea, .int .i64 eb] 25)).drewN m = wk at *
    obtain ⟨c, hc⟩ : ∃ c, firstE ea eb = c := ⟨_, rfl⟩
    rw [hc])
  by_cases h0 : c = 0
  · have hab : ea = 0 ∧ eb = 0 := by
      unfold firstE at hc
      rw [h0] at hc
      by_cases e : ea = 0
      · rw [if_pos e] at hc; exact ⟨e, hc⟩
      · rw [if_neg e] at hc; exact absurd hc e
    have ka := checkS_ok (HE.out.1.trans hab.1)
    have kb := checkS_ok (HE.out.2.trans hab.2)
    have hgood := joinR_good (HE.out.1.trans hab.1) (HE.out.2.trans hab.2) HY.out
    have hsj : madeS (joinR a b y) = s := by
      rw [← HSS.out]
      unfold joinS
      rw [HE.out.1, HE.out.2, hc, if_pos h0]
    have HG : Sl _ := ⟨And.intro hgood (And.intro hsj (And.intro ka kb))⟩
    have had : 1 ≤ a.d ∧ a.d ≤ 1000 := ka.1
    have hbd : 1 ≤ b.d ∧ b.d ≤ 1000 := kb.1
    have hbw := HW.out.1.alloc HW.out.1.size (.cells #[.int .i64 0, .int .i64 0, .int .i64 0, .int .i64 0, .int .i64 0, .int .i64 0] 22)
    have Xa := HW.out.2.1.alloc (.cells #[.int .i64 0, .int .i64 0, .int .i64 0, .int .i64 0, .int .i64 0, .int .i64 0] 22)
    have Xb := HW.out.2.2.1.alloc (.cells #[.int .i64 0, .int .i64 0, .int .i64 0, .int .i64 0, .int .i64 0, .int .i64 0] 22)
    have Xz := HW.out.2.2.2.alloc (.cells #[.int .i64 0, .int .i64 0, .int .i64 0, .int .i64 0, .int .i64 0, .int .i64 0] 22)
    have Xn := Blk.new wk 22 #[.int .i64 0, .int .i64 0, .int .i64 0, .int .i64 0, .int .i64 0, .int .i64 0]
    rw [← HCE.out.1] at Xa
    rw [← HCE.out.2] at Xb
    have HX : Sl _ := ⟨And.intro hbw (And.intro Xa (And.intro Xb (And.intro Xz (And.intro Xn HW.out.2.2.2.lt))))⟩
    clear hab ka kb hgood hsj hbw Xa Xb Xz Xn hc HSS HW
    subst h0
    go_wp2_with fail
    generalize hg4 : wk.heap.size = g4 at *
    generalize wk.alloc (.cells #[.int .i64 0, .int .i64 0, .int .i64 0, .int .i64 0, .int .i64 0, .int .i64 0] 22) = w2 at *
    clear hg4
    go_loopw [21] (fun s21 wr => ∃ i : Nat, i ≤ 6 ∧ s21 = .int .i64 i ∧ Sl (Below w.heap.size w wr ∧ Blk wr w.heap.size 24 a.cells ∧ Blk wr (w.heap.size + 1) 24 b.cells ∧ Blk wr (w.heap.size + 1 + 1) 24 #[.int .i64 0, .int .i64 0, .int .i64 0, .int .i64 0, .int .i64 0, .int .i64 0, .int .i64 0] ∧ Blk wr g4 22 (RV.of (fun j => if j < i then a.num j * b.d + y * b.num j * a.d else 0) 0).nums)) (fun s21 _ => 6 - (RowKit.intOf s21).toNat)
    case atStart => exact ⟨0, by decide, rfl, ⟨HX.out.1, HX.out.2.1, HX.out.2.2.1, HX.out.2.2.2.1, HX.out.2.2.2.2.1⟩⟩
    case round =>
      obtain ⟨i, hi, rfl, HI⟩ := hrel
      by_cases hi6 : i < 6
      · have cA : wr.cell? ⟨w.heap.size, i, none⟩ = some (.int .i64 (a.num i)) := by rw [HI.out.2.1.cell, RV.ccell a hi6]
        have cB : wr.cell? ⟨w.heap.size + 1, i, none⟩ = some (.int .i64 (b.num i)) := by rw [HI.out.2.2.1.cell, RV.ccell b hi6]
        have dA : wr.cell? ⟨w.heap.size, 6, none⟩ = some (.int .i64 a.d) := by rw [HI.out.2.1.cell, RV.dcell a]
        have dB : wr.cell? ⟨w.heap.size + 1, 6, none⟩ = some (.int .i64 b.d) := by rw [HI.out.2.2.1.cell, RV.dcell b]
        have hcell : wr.cell? ⟨g4, i, none⟩ = some (.int .i64 0) := by
          rw [HI.out.2.2.2.2.cell, RV.of_ncell _ _ hi6, if_neg (Nat.lt_irrefl _)]
        have hfz : wr.frozen? ⟨g4, i, none⟩ = false := HI.out.2.2.2.2.frozen i
        have p1 := inR_mul (HG.out.2.2.1.2.1 i hi6) hbd.1 hbd.2
        have p2 := HG.out.2.2.2.2.1 i hi6
        have p2b : -100000 ≤ y * b.num i ∧ y * b.num i ≤ 100000 := by
          have h1 := p2.1
          have h2 := p2.2
          rcases HY.out with h | h
          · rw [h]; omega
          · rw [h]; omega
        have p3 := inR_mul (x := y * b.num i) p2b had.1 had.2
        obtain ⟨z, hz⟩ : ∃ z, a.num i = z := ⟨_, rfl⟩
        obtain ⟨u, hu⟩ : ∃ u, b.num i = u := ⟨_, rfl⟩
        rw [hz] at cA p1
        rw [hu] at cB p2b p3
        obtain ⟨P, hP⟩ : ∃ P, z * b.d = P := ⟨_, rfl⟩
        obtain ⟨Y, hY⟩ : ∃ Y, y * u = Y := ⟨_, rfl⟩
        rw [hY] at p2b p3
        obtain ⟨T, hT⟩ : ∃ T, Y * a.d = T := ⟨_, rfl⟩
        rw [hP] at p1
        rw [hT] at p3
        obtain ⟨p1a, p1b⟩ := p1
        obtain ⟨p2c, p2d⟩ := p2b
        obtain ⟨p3a, p3b⟩ := p3
        have hwP : IntKind.i64.wrap P = P := by rw [IntKind.wrap_i64]; omega
        have hwY : IntKind.i64.wrap Y = Y := by rw [IntKind.wrap_i64]; omega
        have hwT : IntKind.i64.wrap T = T := by rw [IntKind.wrap_i64]; omega
        have hwS : IntKind.i64.wrap (P + T) = P + T := by rw [IntKind.wrap_i64]; omega
        have hPn := HI.out.2.2.2.2.set_ i (.int .i64 (P + T))
        rw [RV.of_nset _ _ _ hi6] at hPn
        have hne0 : w.heap.size ≠ g4 := by have := HX.out.2.2.2.2.2; omega
        have hne1 : w.heap.size + 1 ≠ g4 := by have := HX.out.2.2.2.2.2; omega
        have hne2 : w.heap.size + 1 + 1 ≠ g4 := by have := HX.out.2.2.2.2.2; omega
        have hF : RV.of (fun j => if j = i then P + T else if j < i then a.num j * b.d + y * b.num j * a.d else 0) 0 = RV.of (fun j => if j < i + 1 then a.num j * b.d + y * b.num j * a.d else 0) 0 := RV.of_congr 0 (fun j hj => by
          by_cases h : j = i
          · rw [if_pos h, if_pos (by omega), h, hz, hu, hP, hY, hT]
          · rw [if_neg h]
            by_cases h2 : j < i
            · rw [if_pos h2, if_pos (by omega)]
            · rw [if_neg h2, if_neg (by omega)])
        rw [hF] at hPn
        have HN : Sl _ := ⟨And.intro (HI.out.1.setCell (p := ⟨g4, i, none⟩) (by have := HX.out.2.2.2.2.2; show w.heap.size ≤ g4; omega) (.int .i64 (P + T))) (And.intro (HI.out.2.1.far (p := ⟨g4, i, none⟩) hne0 (.int .i64 (P + T))) (And.intro (HI.out.2.2.1.far (p := ⟨g4, i, none⟩) hne1 (.int .i64 (P + T))) (And.intro (HI.out.2.2.2.1.far (p := ⟨g4, i, none⟩) hne2 (.int .i64 (P + T))) hPn)))⟩
        clear hPn hne0 hne1 hne2 hF p1a p1b p2c p2d p3a p3b p2 hz hu HI had hbd
        go_wp2_with fail
        go_region
        all_goals (
          go_wp2_with fail
          refine ⟨?_, by simp [RowKit.intOf]; omega⟩
          exact ⟨i + 1, hi6, by go_num, ⟨below_drewN HN.out.1 1, HN.out.2⟩⟩)
      · obtain rfl : i = 6 := by omega
        clear hi6 hi
        have hmk : RV.of (fun j => if j < 6 then a.num j * b.d + y * b.num j * a.d else 0) 0 = RV.of (fun j => a.num j * b.d + y * b.num j * a.d) 0 := RV.of_congr 0 (fun j hj => if_pos hj)
        have Y4 := HI.out.2.2.2.2
        rw [hmk] at Y4
        have hnn : (RV.of (fun j => a.num j * b.d + y * b.num j * a.d) 0).nums = (joinR a b y).nums := rfl
        rw [hnn] at Y4
        have hqd : a.d * b.d = (joinR a b y).d := rfl
        have dA : wr.cell? ⟨w.heap.size, 6, none⟩ = some (.int .i64 a.d) := by rw [HI.out.2.1.cell, RV.dcell a]
        have dB : wr.cell? ⟨w.heap.size + 1, 6, none⟩ = some (.int .i64 b.d) := by rw [HI.out.2.2.1.cell, RV.dcell b]
        have hM := fun W : World => rmade_any (joinR a b y) W HG.out.1.1 HG.out.1.2.1 HG.out.1.2.2
        have hq1 := HG.out.1.1
        have hq2 := HG.out.1.2.1
        rw [HG.out.2.1] at hM
        have HI2 : Sl _ := ⟨And.intro HI.out.1 HI.out.2.2.2.1⟩
        clear hmk hnn HI HG had hbd
        generalize joinR a b y = q at *
        unfold RV.nums at Y4 hM
        obtain ⟨r, er⟩ := s
        unfold OfRes RV.cells at hM
        have HM : Sl _ := ⟨hM⟩
        have x0 := Y4.cell 0
        have x1 := Y4.cell 1
        have x2 := Y4.cell 2
        have x3 := Y4.cell 3
        have x4 := Y4.cell 4
        have x5 := Y4.cell 5
        simp at x0 x1 x2 x3 x4 x5
        have hwq : IntKind.i64.wrap q.d = q.d := by rw [IntKind.wrap_i64]; omega
        clear hM Y4 hq1 hq2
        go_wp2_with fail
        refine (HM.out _).mono ?_; rintro e w3 ⟨rfl, hb3⟩
        have hB := HI2.out.1.trans (hb3.mono HI2.out.1.size)
        have Z := HI2.out.2.below hb3 HI2.out.2.lt
        clear x0 x1 x2 x3 x4 x5 dA dB
        have d0 := Z.cell 0
        have d1 := Z.cell 1
        have d2 := Z.cell 2
        have d3 := Z.cell 3
        have d4 := Z.cell 4
        have d5 := Z.cell 5
        have d6 := Z.cell 6
        simp at d0 d1 d2 d3 d4 d5 d6
        have f0 := Z.frozen 0
        have f1 := Z.frozen 1
        have f2 := Z.frozen 2
        have f3 := Z.frozen 3
        have f4 := Z.frozen 4
        have f5 := Z.frozen 5
        have f6 := Z.frozen 6
        have HFIN : Sl _ := ⟨And.intro hB Z⟩
        clear hB Z HM hb3
        go_wp2_with fail
        refine bodyPost_ret (results_rowR rfl _ _ (w.heap.size + 1 + 1) _ _ _ rfl (HFIN.out.2.seven _ _ _ _ _ _ _) Tryz.underlying24 rfl (by kernel_rfl)) rfl ?_
        exact ⟨rfl, below_seven HFIN.out.1 (by omega) _ _ _ _ _ _ _⟩
  · have hcz : (c != 0) = true := by rw [bne_iff_ne]; exact h0
    have HZR : Sl (s = (RVzero, c)) := ⟨by
      rw [← HSS.out]
      unfold joinS
      rw [HE.out.1, HE.out.2, hc, if_neg h0]⟩
    have d0 := HW.out.2.2.2.cell 0
    have d1 := HW.out.2.2.2.cell 1
    have d2 := HW.out.2.2.2.cell 2
    have d3 := HW.out.2.2.2.cell 3
    have d4 := HW.out.2.2.2.cell 4
    have d5 := HW.out.2.2.2.cell 5
    have d6 := HW.out.2.2.2.cell 6
    simp at d0 d1 d2 d3 d4 d5 d6
    have f0 := HW.out.2.2.2.frozen 0
    have f1 := HW.out.2.2.2.frozen 1
    have f2 := HW.out.2.2.2.frozen 2
    have f3 := HW.out.2.2.2.frozen 3
    have f4 := HW.out.2.2.2.frozen 4
    have f5 := HW.out.2.2.2.frozen 5
    have f6 := HW.out.2.2.2.frozen 6
    clear hc HCE
    go_wp2_with fail
    refine bodyPost_ret (results_rowR rfl _ _ (w.heap.size + 1 + 1) _ _ _ rfl (HW.out.2.2.2.seven _ _ _ _ _ _ _) Tryz.underlying24 rfl (by kernel_rfl)) rfl ?_
    exact ⟨by rw [HZR.out]; rfl, below_seven HW.out.1 (by omega) _ _ _ _ _ _ _⟩
end Go.Proofs.YtalodfjplegibaaGreatDoor
