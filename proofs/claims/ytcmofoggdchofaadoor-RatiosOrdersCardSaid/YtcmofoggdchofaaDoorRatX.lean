/- Package ratios: made. -/
import Derived.Test.YtcmofoggdchofaaDoorRatW
namespace Go.Proofs.YtcmofoggdchofaaDoor
set_option linter.unusedSimpArgs false
open Go.RowKit
set_option linter.unusedVariables false

set_option maxHeartbeats 3200000 in
set_option maxRecDepth 100000 in
theorem rmade_any (r : RV) (w : World) (h1 : 1 ≤ r.d) (h2 : r.d ≤ 1000000) (h3 : ∀ i, i < 6 → -1000000000 ≤ r.num i ∧ r.num i ≤ 1000000000) :
    Calls Tryd.prog 37 #[.agg r.nums, .int .i64 r.d] w fun e w' => OfRes e (madeS r) ∧ Below w.heap.size w w' := by
  obtain ⟨s, hs⟩ : ∃ s, madeS r = s := ⟨_, rfl⟩
  rw [hs]
  have HSS : Sl _ := ⟨hs⟩
  clear hs
  have hu := ((Below.refl w.heap.size w).alloc (Nat.le_refl _) (.cells r.nums 22)).alloc (by simp) (.cells RVzero.cells 24)
  have X0 := (Blk.new w 22 r.nums).alloc (.cells RVzero.cells 24)
  have X1 := Blk.new (w.alloc (.cells r.nums 22)) 24 RVzero.cells
  rw [show (w.alloc (.cells r.nums 22)).heap.size = w.heap.size + 1 by simp] at X1
  have hidx := fun (W : World) (i : Nat) (hi : i < 6) => index6 W r hi
  unfold RV.nums at *
  rw [RVzero_cells] at hu X0 X1
  have HU : Sl _ := ⟨And.intro hu (And.intro X0 X1)⟩
  clear hu X0 X1
  have H3 : Sl _ := ⟨h3⟩
  have HC : Sl _ := ⟨fun W : World => rcheckR_any (mkR r) W⟩
  clear h3
  go_enter Tryd.func37, Tryd.ntmps37
  go_wp2_with fail
  generalize (w.alloc (.cells #[.int .i64 r.n0, .int .i64 r.n1, .int .i64 r.n2, .int .i64 r.n3, .int .i64 r.n4, .int .i64 r.n5] 22)).alloc (.cells #[.int .i64 0, .int .i64 0, .int .i64 0, .int .i64 0, .int .i64 0, .int .i64 0, .int .i64 0] 24) = w0 at *
  go_loopw [6, 14] (fun s6 s14 wr => ∃ i : Nat, i ≤ 6 ∧ s14 = .int .i64 i ∧ s6 = .int .i64 (r.gcd i : Nat) ∧ Sl (Below w.heap.size w wr ∧ Blk wr w.heap.size 22 #[.int .i64 r.n0, .int .i64 r.n1, .int .i64 r.n2, .int .i64 r.n3, .int .i64 r.n4, .int .i64 r.n5] ∧ Blk wr (w.heap.size + 1) 24 #[.int .i64 0, .int .i64 0, .int .i64 0, .int .i64 0, .int .i64 0, .int .i64 0, .int .i64 0])) (fun _ s14 _ => 6 - (RowKit.intOf s14).toNat)
  case atStart => exact ⟨0, by decide, rfl, ret_val (by show r.d = ((r.d.natAbs : Nat) : Int); omega), ⟨HU.out⟩⟩
  case round =>
    clear HU
    obtain ⟨i, hi, rfl, rfl, HR⟩ := hrel
    by_cases hi6 : i < 6
    · have hix := fun W : World => hidx W i hi6
      obtain ⟨z, hz⟩ : ∃ z, r.num i = z := ⟨_, rfl⟩
      obtain ⟨g, hg⟩ : ∃ g, r.gcd i = g := ⟨_, rfl⟩
      obtain ⟨g', hg'⟩ : ∃ g', r.gcd (i + 1) = g' := ⟨_, rfl⟩
      rw [hz] at hix
      have hgp := RV.gcd_pos (r := r) (by omega) i
      rw [hg] at hgp
      have hgd : Nat.gcd g z.natAbs = g' := by rw [← hg', ← hg, ← hz]; rfl
      have hzb := H3.out i hi6
      rw [hz] at hzb
      rw [hg]
      have HZ : Sl _ := ⟨And.intro hz (And.intro hg hg')⟩
      clear hidx hz hg hg'
      have HS : Sl _ := ⟨fun W : World => rsize_any z W (by omega) (by omega)⟩
      have HG : Sl _ := ⟨fun W : World => rgcd_any g z.natAbs W (by omega) (by omega)⟩
      rw [hgd] at HG
      clear hgd hgp hzb
      generalize z.natAbs = za at *
      go_wp2_with fail
      refine (HS.out _).mono ?_; rintro e w1 ⟨rfl, rfl⟩
      go_wp2_with fail
      refine (HG.out _).mono ?_; rintro e w2 ⟨rfl, dn, rfl⟩
      go_wp2_with fail
      refine ⟨⟨i + 1, hi6, by go_num, ret_val (by rw [HZ.out.2.2]), ⟨below_drewN HR.out.1 dn, HR.out.2.1.below (below_drewN (Below.refl _ _) dn) HR.out.2.1.lt, HR.out.2.2.below (below_drewN (Below.refl _ _) dn) HR.out.2.2.lt⟩⟩, by simp [RowKit.intOf]; omega⟩
    · obtain rfl : i = 6 := by omega
      clear hi6 hi
      have hgp := (RV.gcd_pos (r := r) (by omega) 6)
      obtain ⟨g, hg⟩ : ∃ g, r.gcd 6 = g := ⟨_, rfl⟩
      rw [hg] at hgp ⊢
      have hgz : ¬ (g : Int) = 0 := by omega
      obtain ⟨dd, hdd⟩ : ∃ dd, r.d.tdiv (g : Int) = dd := ⟨_, rfl⟩
      have hddb : 1 ≤ dd ∧ dd ≤ 1000000 := by
        have e := tdiv_abs (z := r.d) hgp.1 (by rw [← hg]; exact (RV.gcd_dvd r 6).1)
        rw [hdd] at e
        have p : 0 ≤ dd := by rw [← hdd]; exact Int.tdiv_nonneg (by omega) (by omega)
        have l := Nat.le_mul_of_pos_right dd.natAbs hgp.1
        refine ⟨?_, by omega⟩
        rcases Int.lt_or_le 0 dd with h | h
        · omega
        · rw [show dd = 0 by omega] at e
          simp at e
          omega
      obtain ⟨hdd1, hdd2⟩ := hddb
      have q0 := fun ob => (HR.out.2.1.alloc ob).cell 0
      have q1 := fun ob => (HR.out.2.1.alloc ob).cell 1
      have q2 := fun ob => (HR.out.2.1.alloc ob).cell 2
      have q3 := fun ob => (HR.out.2.1.alloc ob).cell 3
      have q4 := fun ob => (HR.out.2.1.alloc ob).cell 4
      have q5 := fun ob => (HR.out.2.1.alloc ob).cell 5
      simp at q0 q1 q2 q3 q4 q5
      have hlt := HR.out.2.2.lt
      have hB := HR.out.1.alloc (by omega) (.cells #[.int .i64 0, .int .i64 0, .int .i64 0, .int .i64 0, .int .i64 0, .int .i64 0, .int .i64 dd] 24)
      have Y1 := HR.out.2.2.alloc (.cells #[.int .i64 0, .int .i64 0, .int .i64 0, .int .i64 0, .int .i64 0, .int .i64 0, .int .i64 dd] 24)
      have Y2 := Blk.new wr 24 #[.int .i64 0, .int .i64 0, .int .i64 0, .int .i64 0, .int .i64 0, .int .i64 0, .int .i64 dd]
      have H2 : Sl _ := ⟨And.intro hB (And.intro Y1 Y2)⟩
      have HL : Sl _ := ⟨And.intro hlt hgp⟩
      have HG : Sl _ := ⟨And.intro hg hdd⟩
      clear hlt hB Y1 Y2 hgp hg
      go_wp2_with fail
      clear q0 q1 q2 q3 q4 q5 HR
      generalize hg7 : wr.heap.size = g7 at *
      generalize wr.alloc (.cells #[.int .i64 0, .int .i64 0, .int .i64 0, .int .i64 0, .int .i64 0, .int .i64 0, .int .i64 dd] 24) = w2 at *
      clear hg7
      go_loopw [27] (fun s27 wq => ∃ i : Nat, i ≤ 6 ∧ s27 = .int .i64 i ∧ Sl (Below w.heap.size w wq ∧ Blk wq (w.heap.size + 1) 24 #[.int .i64 0, .int .i64 0, .int .i64 0, .int .i64 0, .int .i64 0, .int .i64 0, .int .i64 0] ∧ Blk wq g7 24 (RV.of (fun j => if j < i then (r.num j).tdiv (g : Int) else 0) dd).cells)) (fun s27 _ => 6 - (RowKit.intOf s27).toNat)
      case atStart => exact ⟨0, by decide, rfl, ⟨H2.out⟩⟩
      case round =>
        obtain ⟨i, hi, rfl, HI⟩ := hrel
        by_cases hi6 : i < 6
        · have hix := fun W : World => hidx W i hi6
          obtain ⟨z, hz⟩ : ∃ z, r.num i = z := ⟨_, rfl⟩
          rw [hz] at hix
          obtain ⟨y, hy⟩ : ∃ y, z.tdiv (g : Int) = y := ⟨_, rfl⟩
          have hyb : -1000000000 ≤ y ∧ y ≤ 1000000000 := by
            have hb := H3.out i hi6
            rw [hz] at hb
            have e := tdiv_abs (z := z) HL.out.2.1 (by rw [← HG.out.1, ← hz]; exact (RV.gcd_dvd r 6).2 i hi6)
            rw [hy] at e
            have l := Nat.le_mul_of_pos_right y.natAbs HL.out.2.1
            omega
          obtain ⟨hy1, hy2⟩ := hyb
          have hfz : wr.frozen? ⟨g7, i, none⟩ = false := HI.out.2.2.frozen i
          have hcell : wr.cell? ⟨g7, i, none⟩ = some (.int .i64 0) := by
            rw [HI.out.2.2.cell, RV.of_cell _ _ hi6, if_neg (Nat.lt_irrefl _)]
          have hP := HI.out.2.2.set_ i (.int .i64 y)
          rw [RV.of_set _ _ _ hi6, RV.of_congr dd (fun j hj => (?_ : _ = if j < i + 1 then (r.num j).tdiv (g : Int) else 0))] at hP
          rotate_left
          · by_cases h : j = i
            · rw [if_pos h, if_pos (by omega), h, hz, hy]
            · rw [if_neg h]
              by_cases h2 : j < i
              · rw [if_pos h2, if_pos (by omega)]
              · rw [if_neg h2, if_neg (by omega)]
          have hne : w.heap.size + 1 ≠ g7 := by have := HL.out.1; omega
          have HN : Sl _ := ⟨And.intro (HI.out.1.setCell (p := ⟨g7, i, none⟩) (by have := HL.out.1; show w.heap.size ≤ g7; omega) (.int .i64 y)) (And.intro (HI.out.2.1.far (p := ⟨g7, i, none⟩) hne (.int .i64 y)) hP)⟩
          have HFZ : Sl _ := ⟨hfz⟩
          clear hP hne hidx HI
          go_wp2_with fail
          refine ⟨?_, by simp [RowKit.intOf]; omega⟩
          repeat (first | exact ⟨i + 1, hi6, by go_num, HN⟩ | exact ⟨⟨i + 1, hi6, by go_num, HN⟩, rfl⟩ | exact ⟨i + 1, ⟨hi6, by go_num, HN⟩, rfl⟩ | apply Exists.intro)
        · obtain rfl : i = 6 := by omega
          clear hi6 hi hidx
          have hmk : RV.of (fun j => if j < 6 then (r.num j).tdiv (g : Int) else 0) dd = mkR r := by
            unfold mkR; rw [HG.out.1, HG.out.2]; exact RV.of_congr dd (fun j hj => if_pos hj)
          have Y2 := HI.out.2.2
          rw [hmk] at Y2
          have hk := madeS_check r h1
          rw [HSS.out] at hk
          generalize mkR r = q at *
          unfold RV.cells at Y2 HC
          have hB := HI.out.1
          have Y1 := HI.out.2.1
          have x0 := Y2.cell 0
          have x1 := Y2.cell 1
          have x2 := Y2.cell 2
          have x3 := Y2.cell 3
          have x4 := Y2.cell 4
          have x5 := Y2.cell 5
          have x6 := Y2.cell 6
          simp at x0 x1 x2 x3 x4 x5 x6
          have H5 : Sl _ := ⟨And.intro hB (And.intro Y1 Y2)⟩
          have HK : Sl _ := ⟨hk⟩
          clear hk hB Y1 Y2 HI H2 hmk HG
          go_wp2_with fail
          refine (HC.out wr).mono ?_; rintro e w3 ⟨rfl, hb3⟩
          clear x0 x1 x2 x3 x4 x5 x6
          have Y1 := H5.out.2.1.below hb3 H5.out.2.1.lt
          have Y2 := H5.out.2.2.below hb3 H5.out.2.2.lt
          have hB := H5.out.1.trans (hb3.mono H5.out.1.size)
          have x0 := Y2.cell 0
          have x1 := Y2.cell 1
          have x2 := Y2.cell 2
          have x3 := Y2.cell 3
          have x4 := Y2.cell 4
          have x5 := Y2.cell 5
          have x6 := Y2.cell 6
          simp at x0 x1 x2 x3 x4 x5 x6
          have d0 := Y1.cell 0
          have d1 := Y1.cell 1
          have d2 := Y1.cell 2
          have d3 := Y1.cell 3
          have d4 := Y1.cell 4
          have d5 := Y1.cell 5
          have d6 := Y1.cell 6
          simp at d0 d1 d2 d3 d4 d5 d6
          have f0 := Y1.frozen 0
          have f1 := Y1.frozen 1
          have f2 := Y1.frozen 2
          have f3 := Y1.frozen 3
          have f4 := Y1.frozen 4
          have f5 := Y1.frozen 5
          have f6 := Y1.frozen 6
          have HFIN : Sl _ := ⟨And.intro hB Y1⟩
          clear hB Y1 Y2 H5 hb3 HC
          obtain ⟨c, hc⟩ : ∃ c, checkS q = c := ⟨_, rfl⟩
          rw [hc] at HK ⊢
          by_cases h0 : c = 0
          · subst h0
            have HZR : Sl (s = (q, 0)) := ⟨HK.out.1 rfl⟩
            go_wp2_with fail
            refine bodyPost_ret (results_rowR rfl _ _ (w.heap.size + 1) _ _ _ rfl (HFIN.out.2.seven _ _ _ _ _ _ _) Tryd.underlying24 rfl (by kernel_rfl)) rfl ?_
            exact ⟨by rw [HZR.out]; rfl, below_seven HFIN.out.1 (Nat.le_succ _) _ _ _ _ _ _ _⟩
          · have hcz : (c == 0) = false := by rw [beq_eq_false_iff_ne]; exact h0
            have HZR : Sl (s = (RVzero, 7)) := ⟨HK.out.2 h0⟩
            go_wp2_with fail
            refine bodyPost_ret (results_rowR rfl _ _ (w.heap.size + 1) _ _ _ rfl (HFIN.out.2.seven _ _ _ _ _ _ _) Tryd.underlying24 rfl (by kernel_rfl)) rfl ?_
            exact ⟨by rw [HZR.out]; rfl, below_seven HFIN.out.1 (Nat.le_succ _) _ _ _ _ _ _ _⟩
end Go.Proofs.YtcmofoggdchofaaDoor
