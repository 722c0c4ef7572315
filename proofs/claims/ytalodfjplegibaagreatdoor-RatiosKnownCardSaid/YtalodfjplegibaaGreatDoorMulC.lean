/- The reference of chapter 04: made. (Printed by genmade.py.) -/
import Derived.Test.YtalodfjplegibaaGreatDoorRatO
import Derived.Test.YtalodfjplegibaaGreatDoorRatZ
namespace Go.Proofs.YtalodfjplegibaaGreatDoor
set_option linter.unusedSimpArgs false
open Go.RowKit
set_option linter.unusedVariables false

theorem RV.ncell (r : RV) {i : Nat} (hi : i < 6) : r.nums[i]? = some (.int .i64 (r.num i)) := by
  have h6 : i = 0 ∨ i = 1 ∨ i = 2 ∨ i = 3 ∨ i = 4 ∨ i = 5 := by omega
  rcases h6 with rfl | rfl | rfl | rfl | rfl | rfl <;> rfl
theorem mkR_big {r : RV} (h : 1000 < r.d.tdiv (r.gcd 6 : Nat)) : madeS r = (RVzero, 7) := by
  unfold madeS
  rw [if_neg]
  intro h2
  have : (mkR r).d = r.d.tdiv (r.gcd 6 : Nat) := rfl
  omega
theorem mkR_out {r : RV} {i : Nat} (hi : i < 6) (h : ¬ inR ((r.num i).tdiv (r.gcd 6 : Nat))) : madeS r = (RVzero, 7) := by
  unfold madeS
  rw [if_neg]
  intro h2
  have := h2.2 i hi
  rw [mkR_num r hi] at this
  exact h this
theorem mkR_in {r : RV} (h1 : r.d.tdiv (r.gcd 6 : Nat) ≤ 1000) (h2 : ∀ i, i < 6 → inR ((r.num i).tdiv (r.gcd 6 : Nat))) : madeS r = (mkR r, 0) := by
  unfold madeS
  rw [if_pos]
  exact ⟨h1, fun i hi => by rw [mkR_num r hi]; exact h2 i hi⟩
set_option maxHeartbeats 6400000 in
set_option maxRecDepth 100000 in
theorem r4made_any (r : RV) (w : World) (h1 : 1 ≤ r.d) (h2 : r.d ≤ 1000000) (h3 : ∀ i, i < 6 → -1000000000 ≤ r.num i ∧ r.num i ≤ 1000000000) :
    Calls Tryz.prog 73 #[.agg r.nums, .int .i64 r.d] w fun e w' => OfRes e (madeS r) ∧ Below w.heap.size w w' := by
  obtain ⟨s, hs⟩ : ∃ s, madeS r = s := ⟨_, rfl⟩
  rw [hs]
  have HSS : Sl _ := ⟨hs⟩
  clear hs
  have hu := ((Below.refl w.heap.size w).alloc (Nat.le_refl _) (.cells r.nums 67)).alloc (by simp) (.cells RVzero.cells 24)
  have X0 := (Blk.new w 67 r.nums).alloc (.cells RVzero.cells 24)
  have X1 := Blk.new (w.alloc (.cells r.nums 67)) 24 RVzero.cells
  rw [show (w.alloc (.cells r.nums 67)).heap.size = w.heap.size + 1 by simp] at X1
  rw [RVzero_cells] at hu X0 X1
  have hnu : r.nums = #[.int .i64 r.n0, .int .i64 r.n1, .int .i64 r.n2, .int .i64 r.n3, .int .i64 r.n4, .int .i64 r.n5] := rfl
  rw [hnu] at hu X0 X1 ⊢
  have HNU : Sl _ := ⟨hnu⟩
  have HU : Sl _ := ⟨And.intro hu (And.intro X0 X1)⟩
  clear hu X0 X1 hnu
  have H3 : Sl _ := ⟨h3⟩
  clear h3
  go_enter Tryz.func73, Tryz.ntmps73
  go_wp2_with fail
  generalize (w.alloc (.cells #[.int .i64 r.n0, .int .i64 r.n1, .int .i64 r.n2, .int .i64 r.n3, .int .i64 r.n4, .int .i64 r.n5] 67)).alloc (.cells #[.int .i64 0, .int .i64 0, .int .i64 0, .int .i64 0, .int .i64 0, .int .i64 0, .int .i64 0] 24) = w0 at *
  rw [← HNU.out] at HU
  go_loopw [6, 7] (fun s6 s7 wr => ∃ i : Nat, i ≤ 6 ∧ s7 = .int .i64 i ∧ s6 = .int .i64 (r.gcd i : Nat) ∧ Sl (Below w.heap.size w wr ∧ Blk wr w.heap.size 67 r.nums ∧ Blk wr (w.heap.size + 1) 24 #[.int .i64 0, .int .i64 0, .int .i64 0, .int .i64 0, .int .i64 0, .int .i64 0, .int .i64 0])) (fun _ s7 _ => 6 - (RowKit.intOf s7).toNat)
  case atStart => exact ⟨0, by decide, rfl, ret_val (by show r.d = ((r.d.natAbs : Nat) : Int); omega), ⟨HU.out⟩⟩
  case round =>
    clear HU
    obtain ⟨i, hi, rfl, rfl, HR⟩ := hrel
    by_cases hi6 : i < 6
    · obtain ⟨z, hz⟩ : ∃ z, r.num i = z := ⟨_, rfl⟩
      have hc : wr.cell? ⟨w.heap.size, i, none⟩ = some (.int .i64 z) := by rw [HR.out.2.1.cell, RV.ncell r hi6, hz]
      obtain ⟨g, hg⟩ : ∃ g, r.gcd i = g := ⟨_, rfl⟩
      obtain ⟨g', hg'⟩ : ∃ g', r.gcd (i + 1) = g' := ⟨_, rfl⟩
      have hgp := RV.gcd_pos (r := r) (by omega) i
      rw [hg] at hgp
      have hgd : Nat.gcd g z.natAbs = g' := by rw [← hg', ← hg, ← hz]; rfl
      have hzb := H3.out i hi6
      rw [hz] at hzb
      obtain ⟨hz1, hz2⟩ := hzb
      rw [hg]
      have HZ : Sl _ := ⟨And.intro hz (And.intro hg hg')⟩
      clear hz hg hg'
      have hwz : IntKind.i64.wrap (-z) = -z := by rw [IntKind.wrap_i64]; omega
      rcases Decidable.em (0 ≤ z) with h0 | h0
      · have hm1 : max z (-z) = z := by omega
        have hm2 : ¬ z < -z := by omega
        have hm3 : -z ≤ z := by omega
        have VA : Sl (∀ q, Calls Tryz.prog 23 #[.int .i64 g, .int .i64 z] (wr.drewN q) fun e w'' => e = .returned (.int .i64 g') ∧ ∃ m, w'' = wr.drewN m) := ⟨fun q => by
          have h := r4gcd_any g z.natAbs (wr.drewN q) (by omega) (by omega)
          rw [hgd, show ((z.natAbs : Nat) : Int) = z by omega] at h
          exact h.mono fun e w'' h => ⟨h.1, by obtain ⟨m, hm⟩ := h.2; exact ⟨q + m, by rw [hm, drew2]⟩⟩⟩
        clear hgd hgp
        go_wp2_with fail
        go_quiet ((go_at_call 23; (with_reducible exact VA.out _)))
        go_wp2_with fail
        exact ⟨⟨i + 1, hi6, by go_num, ret_val (by rw [HZ.out.2.2]), ⟨below_drewN HR.out.1 _, HR.out.2.1.drewN _, HR.out.2.2.drewN _⟩⟩, by simp [RowKit.intOf]; omega⟩
      · have hm1 : max z (-z) = -z := by omega
        have hm3 : z < -z := by omega
        have VA : Sl (∀ q, Calls Tryz.prog 23 #[.int .i64 g, .int .i64 (-z)] (wr.drewN q) fun e w'' => e = .returned (.int .i64 g') ∧ ∃ m, w'' = wr.drewN m) := ⟨fun q => by
          have h := r4gcd_any g z.natAbs (wr.drewN q) (by omega) (by omega)
          rw [hgd, show ((z.natAbs : Nat) : Int) = (-z) by omega] at h
          exact h.mono fun e w'' h => ⟨h.1, by obtain ⟨m, hm⟩ := h.2; exact ⟨q + m, by rw [hm, drew2]⟩⟩⟩
        clear hgd hgp
        go_wp2_with fail
        go_quiet ((go_at_call 23; (with_reducible exact VA.out _)))
        go_wp2_with fail
        exact ⟨⟨i + 1, hi6, by go_num, ret_val (by rw [HZ.out.2.2]), ⟨below_drewN HR.out.1 _, HR.out.2.1.drewN _, HR.out.2.2.drewN _⟩⟩, by simp [RowKit.intOf]; omega⟩
    · obtain rfl : i = 6 := by omega
      clear hi6 hi
      have hgp := (RV.gcd_pos (r := r) (by omega) 6)
      obtain ⟨g, hg⟩ : ∃ g, r.gcd 6 = g := ⟨_, rfl⟩
      have hbig := mkR_big (r := r)
      have hout := fun i hi => mkR_out (r := r) (i := i) hi
      have hin := mkR_in (r := r)
      have hdv := fun i (hi : i < 6) => (RV.gcd_dvd r 6).2 i hi
      have hdd0 := (RV.gcd_dvd r 6).1
      rw [hg] at hgp hbig hout hin hdv hdd0 ⊢
      rw [HSS.out] at hbig hin
      have hout : ∀ i, i < 6 → ¬ inR ((r.num i).tdiv (g : Nat)) → s = (RVzero, 7) := fun i hi h => by rw [← HSS.out]; exact hout i hi h
      have hgz : ¬ (g : Int) = 0 := by omega
      obtain ⟨dd, hdd⟩ : ∃ dd, r.d.tdiv (g : Int) = dd := ⟨_, rfl⟩
      have hddb : 0 ≤ dd ∧ dd ≤ 1000000 := by
        have e := tdiv_abs (z := r.d) hgp.1 hdd0
        rw [hdd] at e
        have p : 0 ≤ dd := by rw [← hdd]; exact Int.tdiv_nonneg (by omega) (by omega)
        have l := Nat.le_mul_of_pos_right dd.natAbs hgp.1
        omega
      obtain ⟨hdd1, hdd2⟩ := hddb
      have hmkr : mkR r = RV.of (fun j => (r.num j).tdiv (g : Int)) dd := by unfold mkR; rw [hg, hdd]
      rw [hdd] at hbig hin
      have HP : Sl _ := ⟨And.intro hbig (And.intro hout (And.intro hin (And.intro hdv (And.intro hmkr hgp))))⟩
      have hB := HR.out.1.alloc (HR.out.1.size) (.cells #[.int .i64 0, .int .i64 0, .int .i64 0, .int .i64 0, .int .i64 0, .int .i64 0, .int .i64 0] 24)
      have Y0 := HR.out.2.1.alloc (.cells #[.int .i64 0, .int .i64 0, .int .i64 0, .int .i64 0, .int .i64 0, .int .i64 0, .int .i64 0] 24)
      have Y1 := HR.out.2.2.alloc (.cells #[.int .i64 0, .int .i64 0, .int .i64 0, .int .i64 0, .int .i64 0, .int .i64 0, .int .i64 0] 24)
      have Y2 := Blk.new wr 24 #[.int .i64 0, .int .i64 0, .int .i64 0, .int .i64 0, .int .i64 0, .int .i64 0, .int .i64 0]
      have H8 : Sl _ := ⟨And.intro hB (And.intro Y0 (And.intro Y1 (And.intro Y2 HR.out.2.2.lt)))⟩
      clear hbig hout hin hdv hmkr hgp hdd0 hg hB Y0 Y1 Y2
      rcases Decidable.em (1000 < dd) with hbg | hbg
      · have HZR : Sl (s = (RVzero, 7)) := ⟨HP.out.1 hbg⟩
        clear HP
        have e0 := fun ob => (HR.out.2.2.alloc ob).cell 0
        have e1 := fun ob => (HR.out.2.2.alloc ob).cell 1
        have e2 := fun ob => (HR.out.2.2.alloc ob).cell 2
        have e3 := fun ob => (HR.out.2.2.alloc ob).cell 3
        have e4 := fun ob => (HR.out.2.2.alloc ob).cell 4
        have e5 := fun ob => (HR.out.2.2.alloc ob).cell 5
        have e6 := fun ob => (HR.out.2.2.alloc ob).cell 6
        simp at e0 e1 e2 e3 e4 e5 e6
        have f0 := fun ob => (HR.out.2.2.alloc ob).frozen 0
        have f1 := fun ob => (HR.out.2.2.alloc ob).frozen 1
        have f2 := fun ob => (HR.out.2.2.alloc ob).frozen 2
        have f3 := fun ob => (HR.out.2.2.alloc ob).frozen 3
        have f4 := fun ob => (HR.out.2.2.alloc ob).frozen 4
        have f5 := fun ob => (HR.out.2.2.alloc ob).frozen 5
        have f6 := fun ob => (HR.out.2.2.alloc ob).frozen 6
        clear HR
        go_wp2_with fail
        refine bodyPost_ret (results_rowR rfl _ _ (w.heap.size + 1) _ _ _ rfl (H8.out.2.2.1.seven _ _ _ _ _ _ _) Tryz.underlying24 rfl (by kernel_rfl)) rfl ?_
        exact ⟨by rw [HZR.out]; rfl, below_seven H8.out.1 (Nat.le_succ _) _ _ _ _ _ _ _⟩
      · clear HR
        go_wp2_with fail
        generalize hg8 : wr.heap.size = g8 at *
        generalize wr.alloc (.cells #[.int .i64 0, .int .i64 0, .int .i64 0, .int .i64 0, .int .i64 0, .int .i64 0, .int .i64 0] 24) = w2 at *
        clear hg8
        go_loopw [9] (fun s9 wq => ∃ i : Nat, i ≤ 6 ∧ s9 = .int .i64 i ∧ Sl (Below w.heap.size w wq ∧ Blk wq w.heap.size 67 r.nums ∧ Blk wq (w.heap.size + 1) 24 #[.int .i64 0, .int .i64 0, .int .i64 0, .int .i64 0, .int .i64 0, .int .i64 0, .int .i64 0] ∧ Blk wq g8 24 (RV.of (fun j => if j < i then (r.num j).tdiv (g : Int) else 0) 0).cells ∧ ∀ j, j < i → inR ((r.num j).tdiv (g : Int)))) (fun s9 _ => 6 - (RowKit.intOf s9).toNat)
        case atStart => exact ⟨0, by decide, rfl, ⟨H8.out.1, H8.out.2.1, H8.out.2.2.1, H8.out.2.2.2.1, fun j hj => absurd hj (Nat.not_lt_zero _)⟩⟩
        case round =>
          obtain ⟨i, hi, rfl, HI⟩ := hrel
          by_cases hi6 : i < 6
          · obtain ⟨z, hz⟩ : ∃ z, r.num i = z := ⟨_, rfl⟩
            have hc : wr.cell? ⟨w.heap.size, i, none⟩ = some (.int .i64 z) := by rw [HI.out.2.1.cell, RV.ncell r hi6, hz]
            obtain ⟨y, hy⟩ : ∃ y, z.tdiv (g : Int) = y := ⟨_, rfl⟩
            have hyb : -1000000000 ≤ y ∧ y ≤ 1000000000 := by
              have hb := H3.out i hi6
              rw [hz] at hb
              have e := tdiv_abs (z := z) HP.out.2.2.2.2.2.1 (by rw [← hz]; exact HP.out.2.2.2.1 i hi6)
              rw [hy] at e
              have l := Nat.le_mul_of_pos_right y.natAbs HP.out.2.2.2.2.2.1
              omega
            obtain ⟨hy1, hy2⟩ := hyb
            have HZY : Sl _ := ⟨And.intro hz hy⟩
            rcases Decidable.em (y < -100000) with hlo | hlo
            · have HZR : Sl (s = (RVzero, 7)) := ⟨HP.out.2.1 i hi6 (by rw [hz, hy]; unfold inR; omega)⟩
              have d0 := HI.out.2.2.1.cell 0
              have d1 := HI.out.2.2.1.cell 1
              have d2 := HI.out.2.2.1.cell 2
              have d3 := HI.out.2.2.1.cell 3
              have d4 := HI.out.2.2.1.cell 4
              have d5 := HI.out.2.2.1.cell 5
              have d6 := HI.out.2.2.1.cell 6
              simp at d0 d1 d2 d3 d4 d5 d6
              have f0 := HI.out.2.2.1.frozen 0
              have f1 := HI.out.2.2.1.frozen 1
              have f2 := HI.out.2.2.1.frozen 2
              have f3 := HI.out.2.2.1.frozen 3
              have f4 := HI.out.2.2.1.frozen 4
              have f5 := HI.out.2.2.1.frozen 5
              have f6 := HI.out.2.2.1.frozen 6
              clear hz
              go_wp2_with fail
              refine bodyPost_ret (results_rowR rfl _ _ (w.heap.size + 1) _ _ _ rfl (HI.out.2.2.1.seven _ _ _ _ _ _ _) Tryz.underlying24 rfl (by kernel_rfl)) rfl ?_
              exact ⟨by rw [HZR.out]; rfl, below_seven HI.out.1 (Nat.le_succ _) _ _ _ _ _ _ _⟩
            · rcases Decidable.em (100000 < y) with hhi | hhi
              · have HZR : Sl (s = (RVzero, 7)) := ⟨HP.out.2.1 i hi6 (by rw [hz, hy]; unfold inR; omega)⟩
                have d0 := HI.out.2.2.1.cell 0
                have d1 := HI.out.2.2.1.cell 1
                have d2 := HI.out.2.2.1.cell 2
                have d3 := HI.out.2.2.1.cell 3
                have d4 := HI.out.2.2.1.cell 4
                have d5 := HI.out.2.2.1.cell 5
                have d6 := HI.out.2.2.1.cell 6
                simp at d0 d1 d2 d3 d4 d5 d6
                have f0 := HI.out.2.2.1.frozen 0
                have f1 := HI.out.2.2.1.frozen 1
                have f2 := HI.out.2.2.1.frozen 2
                have f3 := HI.out.2.2.1.frozen 3
                have f4 := HI.out.2.2.1.frozen 4
                have f5 := HI.out.2.2.1.frozen 5
                have f6 := HI.out.2.2.1.frozen 6
                clear hz
                go_wp2_with fail
                refine bodyPost_ret (results_rowR rfl _ _ (w.heap.size + 1) _ _ _ rfl (HI.out.2.2.1.seven _ _ _ _ _ _ _) Tryz.underlying24 rfl (by kernel_rfl)) rfl ?_
                exact ⟨by rw [HZR.out]; rfl, below_seven HI.out.1 (Nat.le_succ _) _ _ _ _ _ _ _⟩
              · have hfz : wr.frozen? ⟨g8, i, none⟩ = false := HI.out.2.2.2.1.frozen i
                have hcell : wr.cell? ⟨g8, i, none⟩ = some (.int .i64 0) := by
                  rw [HI.out.2.2.2.1.cell, RV.of_cell _ _ hi6, if_neg (Nat.lt_irrefl _)]
                have hP := HI.out.2.2.2.1.set_ i (.int .i64 y)
                rw [RV.of_set _ _ _ hi6, RV.of_congr 0 (fun j hj => (?_ : _ = if j < i + 1 then (r.num j).tdiv (g : Int) else 0))] at hP
                rotate_left
                · by_cases h : j = i
                  · rw [if_pos h, if_pos (by omega), h, hz, hy]
                  · rw [if_neg h]
                    by_cases h2 : j < i
                    · rw [if_pos h2, if_pos (by omega)]
                    · rw [if_neg h2, if_neg (by omega)]
                have hne0 : w.heap.size ≠ g8 := by have := H8.out.2.2.2.2; omega
                have hne1 : w.heap.size + 1 ≠ g8 := by have := H8.out.2.2.2.2; omega
                have hinn : ∀ j, j < i + 1 → inR ((r.num j).tdiv (g : Int)) := fun j hj => by
                  rcases Nat.lt_or_ge j i with h | h
                  · exact HI.out.2.2.2.2 j h
                  · have : j = i := by omega
                    rw [this, hz, hy]; exact ⟨by omega, by omega⟩
                have HN : Sl _ := ⟨And.intro (HI.out.1.setCell (p := ⟨g8, i, none⟩) (by show w.heap.size ≤ g8; have := H8.out.2.2.2.2; omega) (.int .i64 y)) (And.intro (HI.out.2.1.far (p := ⟨g8, i, none⟩) hne0 (.int .i64 y)) (And.intro (HI.out.2.2.1.far (p := ⟨g8, i, none⟩) hne1 (.int .i64 y)) (And.intro hP hinn)))⟩
                clear hP hne0 hne1 hinn hz HI
                go_wp2_with fail
                refine ⟨?_, by simp [RowKit.intOf]; omega⟩
                repeat (first | exact ⟨i + 1, hi6, by go_num, HN⟩ | exact ⟨⟨i + 1, hi6, by go_num, HN⟩, rfl⟩ | exact ⟨i + 1, ⟨hi6, by go_num, HN⟩, rfl⟩ | apply Exists.intro)
          · obtain rfl : i = 6 := by omega
            clear hi6 hi
            have hmk : RV.of (fun j => if j < 6 then (r.num j).tdiv (g : Int) else 0) 0 = RV.of (fun j => (r.num j).tdiv (g : Int)) 0 := RV.of_congr 0 (fun j hj => if_pos hj)
            have HZR : Sl (s = (mkR r, 0)) := ⟨HP.out.2.2.1 (by omega) HI.out.2.2.2.2⟩
            have Y8 := HI.out.2.2.2.1
            rw [hmk] at Y8
            obtain ⟨q, hq⟩ : ∃ q, mkR r = q := ⟨_, rfl⟩
            have hqq : RV.of (fun j => (r.num j).tdiv (g : Int)) dd = q := by rw [← HP.out.2.2.2.2.1, hq]
            have hcs : (RV.of (fun j => (r.num j).tdiv (g : Int)) 0).cells = #[.int .i64 q.n0, .int .i64 q.n1, .int .i64 q.n2, .int .i64 q.n3, .int .i64 q.n4, .int .i64 q.n5, .int .i64 0] := by rw [← hqq]; rfl
            have hqd : q.d = dd := by rw [← hqq]; rfl
            rw [hcs] at Y8
            rw [hq] at HZR
            have hlt8 := H8.out.2.2.2.2
            have hne1 : w.heap.size + 1 ≠ g8 := by omega
            have Y8d : Blk (wr.setCell ⟨g8, 6, none⟩ (.int .i64 dd)) g8 24 #[.int .i64 q.n0, .int .i64 q.n1, .int .i64 q.n2, .int .i64 q.n3, .int .i64 q.n4, .int .i64 q.n5, .int .i64 dd] := Y8.set_ 6 (.int .i64 dd)
            have Y1d := HI.out.2.2.1.far (p := ⟨g8, 6, none⟩) hne1 (.int .i64 dd)
            have hBd := HI.out.1.setCell (p := ⟨g8, 6, none⟩) (by show w.heap.size ≤ g8; omega) (.int .i64 dd)
            have c6 := Y8.cell 6
            simp at c6
            have z6 := Y8.frozen 6
            have HQ : Sl _ := ⟨And.intro Y8d (And.intro Y1d (And.intro hBd hqd))⟩
            clear hmk hqq hcs Y8 Y8d Y1d hBd hqd hq HI HP H8 hlt8
            go_upto_region 17 with (fail)
            generalize wr.setCell ⟨g8, 6, none⟩ (.int .i64 dd) = w5 at *
            have Y8 := HQ.out.1
            rw [← HQ.out.2.2.2] at Y8
            have x0 := Y8.cell 0
            have x1 := Y8.cell 1
            have x2 := Y8.cell 2
            have x3 := Y8.cell 3
            have x4 := Y8.cell 4
            have x5 := Y8.cell 5
            have x6 := Y8.cell 6
            simp at x0 x1 x2 x3 x4 x5 x6
            have d0 := HQ.out.2.1.cell 0
            have d1 := HQ.out.2.1.cell 1
            have d2 := HQ.out.2.1.cell 2
            have d3 := HQ.out.2.1.cell 3
            have d4 := HQ.out.2.1.cell 4
            have d5 := HQ.out.2.1.cell 5
            have d6 := HQ.out.2.1.cell 6
            simp at d0 d1 d2 d3 d4 d5 d6
            have f0 := HQ.out.2.1.frozen 0
            have f1 := HQ.out.2.1.frozen 1
            have f2 := HQ.out.2.1.frozen 2
            have f3 := HQ.out.2.1.frozen 3
            have f4 := HQ.out.2.1.frozen 4
            have f5 := HQ.out.2.1.frozen 5
            have f6 := HQ.out.2.1.frozen 6
            clear c6 z6 Y8
            go_wp2_with fail
            refine bodyPost_ret (results_rowR rfl _ _ (w.heap.size + 1) _ _ _ rfl (HQ.out.2.1.seven _ _ _ _ _ _ _) Tryz.underlying24 rfl (by kernel_rfl)) rfl ?_
            exact ⟨by rw [HZR.out]; rfl, below_seven HQ.out.2.2.1 (Nat.le_succ _) _ _ _ _ _ _ _⟩
end Go.Proofs.YtalodfjplegibaaGreatDoor
