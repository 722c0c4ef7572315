/- Package wide: QPow. -/
import Derived.Test.YtgjbaamhpapeeaaGreatDoorWideS
namespace Go.Proofs.YtgjbaamhpapeeaaGreatDoor
set_option linter.unusedSimpArgs false
open Go.RowKit
set_option linter.unusedVariables false

def QPowRes (p : QV) (k : Int) (e : Ending) (w : World) : Prop :=
  if checkQ (fun _ => p) 1 ≠ 0 then QRes false [] [] (checkQ (fun _ => p) 1) e w
  else if k < -2000 ∨ 2000 < k then QRes false [] [] 2 e w
  else if k < 0 ∧ valOf p.la = 0 then QRes false [] [] 4 e w
  else if (limbs ((if k < 0 then valOf p.lb else valOf p.la) ^ k.natAbs)).length ≤ 512 ∧ (limbs ((if k < 0 then valOf p.la else valOf p.lb) ^ k.natAbs)).length ≤ 512 then
    QRes (p.neg && decide (k % 2 ≠ 0)) (limbs ((if k < 0 then valOf p.lb else valOf p.la) ^ k.natAbs)) (limbs ((if k < 0 then valOf p.la else valOf p.lb) ^ k.natAbs)) 0 e w
  else QRes false [] [] 3 e w
theorem QPowRes_eq (p : QV) (k : Int) (e : Ending) (w : World) : QPowRes p k e w = (
  if checkQ (fun _ => p) 1 ≠ 0 then QRes false [] [] (checkQ (fun _ => p) 1) e w
  else if k < -2000 ∨ 2000 < k then QRes false [] [] 2 e w
  else if k < 0 ∧ valOf p.la = 0 then QRes false [] [] 4 e w
  else if (limbs ((if k < 0 then valOf p.lb else valOf p.la) ^ k.natAbs)).length ≤ 512 ∧ (limbs ((if k < 0 then valOf p.la else valOf p.lb) ^ k.natAbs)).length ≤ 512 then
    QRes (p.neg && decide (k % 2 ≠ 0)) (limbs ((if k < 0 then valOf p.lb else valOf p.la) ^ k.natAbs)) (limbs ((if k < 0 then valOf p.la else valOf p.lb) ^ k.natAbs)) 0 e w
  else QRes false [] [] 3 e w) := rfl
set_option maxHeartbeats 800000 in
set_option maxRecDepth 100000 in
theorem QPow_any (p : QV) (k : Int) (w : World) (hp : p.ok w) (hk1 : -9223372036854775808 ≤ k) (hk2 : k ≤ 9223372036854775807) :
    Calls Tryz.prog 33 #[p.val, .int .i64 k] w fun e w' => QPowRes p k e w' ∧ Below w.heap.size w w' := by
  have HP : Sl _ := ⟨hp⟩
  clear hp
  have HR : Sl _ := ⟨QPowRes_eq p k⟩
  unfold QV.val qv
  go_enter Tryz.func33, Tryz.ntmps33
  go_wp2_with fail
  have hu : Below w.heap.size w (((w.alloc (.cells #[.bool p.neg, .slice p.A p.n p.c, .slice p.B p.m p.d] 25)).alloc (.cells #[.bool false, .slice none 0 0, .slice none 0 0] 25)).alloc (.cells #[.bool p.neg, .slice p.A p.n p.c, .slice p.B p.m p.d] 25)) := (((Below.refl _ _).alloc (Nat.le_refl _) _).alloc (by simp) _).alloc (by simp; omega) _
  have hqc := qcells_one ((w.alloc (.cells #[.bool p.neg, .slice p.A p.n p.c, .slice p.B p.m p.d] 25)).alloc (.cells #[.bool false, .slice none 0 0, .slice none 0 0] 25)) p 25
  have hbl0 := ((Blk.new w 25 #[.bool p.neg, .slice p.A p.n p.c, .slice p.B p.m p.d]).alloc (.cells #[.bool false, .slice none 0 0, .slice none 0 0] 25)).alloc (.cells #[.bool p.neg, .slice p.A p.n p.c, .slice p.B p.m p.d] 25)
  have hbl := (Blk.new (w.alloc (.cells #[.bool p.neg, .slice p.A p.n p.c, .slice p.B p.m p.d] 25)) 25 #[.bool false, .slice none 0 0, .slice none 0 0]).alloc (.cells #[.bool p.neg, .slice p.A p.n p.c, .slice p.B p.m p.d] 25)
  have e1 : (w.alloc (.cells #[.bool p.neg, .slice p.A p.n p.c, .slice p.B p.m p.d] 25)).heap.size = w.heap.size + 1 := by simp
  have e2 : ((w.alloc (.cells #[.bool p.neg, .slice p.A p.n p.c, .slice p.B p.m p.d] 25)).alloc (.cells #[.bool false, .slice none 0 0, .slice none 0 0] 25)).heap.size = w.heap.size + 1 + 1 := by simp
  rw [e1] at hbl
  rw [e2] at hqc
  clear e1 e2
  generalize (((w.alloc (.cells #[.bool p.neg, .slice p.A p.n p.c, .slice p.B p.m p.d] 25)).alloc (.cells #[.bool false, .slice none 0 0, .slice none 0 0] 25)).alloc (.cells #[.bool p.neg, .slice p.A p.n p.c, .slice p.B p.m p.d] 25)) = w1 at *
  have HP1 : Sl _ := ⟨HP.out.below hu⟩
  have HCK : Sl _ := ⟨checked_any (w.heap.size + 1 + 1) 1 1 (fun _ => p) w1 (by decide) (by decide) hqc (fun _ _ => HP1.out)⟩
  clear hqc
  refine HCK.out.mono ?_; rintro e w2 ⟨hqs, hb2⟩
  have hu2 := hu.trans (hb2.mono hu.size)
  have hbl2 := hbl.below hb2 hbl.lt
  have hbl02 := hbl0.below hb2 hbl0.lt
  clear HCK hbl hbl0
  have r0 := hbl2.cell 0
  have r1 := hbl2.cell 1
  have r2 := hbl2.cell 2
  have f0 := hbl2.frozen 0
  have f1 := hbl2.frozen 1
  have f2 := hbl2.frozen 2
  simp at r0 r1 r2
  rcases hqs with ⟨h0, gg, cap, rfl, hqc⟩ | ⟨h0, rfl⟩
  · have hpp := checkQ_zero h0 0 (by decide)
    have FP : Sl (p.Fine w2) := ⟨QV.fine (HP1.out.below hb2) hpp⟩
    have HR0 : Sl _ := ⟨fun e w' => (HR.out e w').trans (if_neg (by rw [h0]; simp))⟩
    clear hpp h0 HR
    have s0 := hbl02.cell 0
    have s1 := hbl02.cell 1
    simp at s0 s1
    by_cases hr : k < -2000 ∨ 2000 < k
    · have HR1 : Sl _ := ⟨fun e w' => (HR0.out e w').trans (if_pos hr)⟩
      have HBL : Sl _ := ⟨hbl2⟩
      clear hbl2 HR0 s0 s1 hqc hbl02
      by_cases hr1 : k < -2000
      · have hd1 : decide (k < -2000) = true := by simpa using hr1
        clear hr1 hr
        go_wp2_with fail
        refine bodyPost_ret (results_row2 rfl _ _ (w.heap.size + 1) _ _ _ rfl (HBL.out.three _ _ _) Tryz.underlying25 rfl (by kernel_rfl)) rfl ?_
        rw [HR1.out]
        exact ⟨q_none _ _, below_three hu2 (by omega) _ _ _⟩
      · have hd1 : decide (k < -2000) = false := by simpa using hr1
        have hd2 : decide (2000 < k) = true := by simp; omega
        clear hr1 hr
        go_wp2_with fail
        refine bodyPost_ret (results_row2 rfl _ _ (w.heap.size + 1) _ _ _ rfl (HBL.out.three _ _ _) Tryz.underlying25 rfl (by kernel_rfl)) rfl ?_
        rw [HR1.out]
        exact ⟨q_none _ _, below_three hu2 (by omega) _ _ _⟩
    · have HR1 : Sl _ := ⟨fun e w' => (HR0.out e w').trans (if_neg hr)⟩
      have hd1 : decide (k < -2000) = false := by simp; omega
      have hd2 : decide (2000 < k) = false := by simp; omega
      clear HR0
      have hna := FP.out.num.1.len
      have hz : p.n = 0 ↔ valOf p.la = 0 := by rw [← hna, List.length_eq_zero_iff, limbs_nil_iff]
      obtain ⟨c0, c1, c2⟩ := hqc.cells (i := 0) (by decide)
      simp only [Nat.zero_mul, Nat.zero_add] at c0 c1 c2
      by_cases hneg : k < 0
      · have hd3 : decide (k < 0) = true := by simpa using hneg
        by_cases hzero : valOf p.la = 0
        · have HR2 : Sl _ := ⟨fun e w' => (HR1.out e w').trans (if_pos ⟨hneg, hzero⟩)⟩
          have hn0 := hz.2 hzero
          have HBL : Sl _ := ⟨hbl2⟩
          rw [hn0] at s1
          clear hz hzero hneg hbl2 hbl02 HR1 hqc hr hna
          go_wp2_with fail
          refine bodyPost_ret (results_row2 rfl _ _ (w.heap.size + 1) _ _ _ rfl (HBL.out.three _ _ _) Tryz.underlying25 rfl (by kernel_rfl)) rfl ?_
          rw [HR2.out]
          exact ⟨q_none _ _, below_three hu2 (by omega) _ _ _⟩
        · have HR2 : Sl _ := ⟨fun e w' => (HR1.out e w').trans (if_neg (fun h => hzero h.2))⟩
          have hn0 : ((p.n : Int) == 0) = false := by rw [beq_eq_false_iff_ne]; intro h; exact hzero (hz.1 (by omega))
          obtain ⟨j, hj⟩ : ∃ j : Nat, k.natAbs = j := ⟨_, rfl⟩
          have hj2 : j ≤ 2000 := by omega
          have hkj : k = -(j : Int) := by omega
          have HPAR : Sl (decide (k % 2 ≠ 0) = (-((j : Int) % 2) != 0)) := ⟨by rw [Bool.eq_iff_iff]; simp; omega⟩
          have HBL : Sl _ := ⟨hbl2⟩
          have HBL0 : Sl _ := ⟨hbl02⟩
          clear hz hzero hbl2 hbl02 HR1 hqc hna
          have hR3 : ∀ e w', QPowRes p k e w' = (if (limbs (valOf p.lb ^ j)).length ≤ 512 ∧ (limbs (valOf p.la ^ j)).length ≤ 512 then QRes (p.neg && decide (k % 2 ≠ 0)) (limbs (valOf p.lb ^ j)) (limbs (valOf p.la ^ j)) 0 e w' else QRes false [] [] 3 e w') := fun e w' => by
            rw [HR2.out, if_pos hneg, if_pos hneg, hj]
          have HR3 : Sl _ := ⟨hR3⟩
          clear hR3 HR2
          have hal : Below w2.heap.size w2 (w2.alloc (.cells #[.bool p.neg, .slice p.B p.m p.d, .slice p.A p.n p.c] 60)) := (Below.refl _ _).alloc (Nat.le_refl _) _
          have hbq := Blk.new w2 60 #[.bool p.neg, .slice p.B p.m p.d, .slice p.A p.n p.c]
          go_wp2_with fail
          rw [show max (-(j : Int)) (j : Int) = (j : Int) by omega]
          refine (pow_any p.B p.m p.d (valOf p.lb) j _ (FP.out.den.below hal) FP.out.ld (by omega)).mono ?_; rintro e w3 ⟨⟨v3, rfl, hv3⟩, hb3⟩
          have hb3' := hal.trans (hb3.mono hal.size)
          have hbq3 := hbq.below hb3 hbq.lt
          have q2 := hbq3.cell 2
          simp at q2
          have HV3 : Sl _ := ⟨hv3⟩
          clear hv3
          go_wp2_with fail
          rw [show max (-(j : Int)) (j : Int) = (j : Int) by omega]
          refine (pow_any p.A p.n p.c (valOf p.la) j _ (FP.out.num.below hb3') FP.out.ln (by omega)).mono ?_; rintro e w4 ⟨⟨v4, rfl, hv4⟩, hb4⟩
          have hb4' := hb3'.trans (hb4.mono hb3'.size)
          have hbo4 := HBL.out.below hb4' HBL.out.lt
          have hbi4 := HBL0.out.below hb4' HBL0.out.lt
          have t0 := hbi4.cell 0
          have y0 := hbo4.cell 0
          have y1 := hbo4.cell 1
          have y2 := hbo4.cell 2
          have g0 := hbo4.frozen 0
          have g1 := hbo4.frozen 1
          have g2 := hbo4.frozen 2
          simp at t0 y0 y1 y2
          have HB4 : Sl _ := ⟨hbo4⟩
          have HV4 : Sl _ := ⟨hv4⟩
          have hu4 := hu2.trans (hb4'.mono hu2.size)
          clear hv4 hbo4 hbi4 q2 hbq3 hbq
          by_cases hl1 : (limbs (valOf p.lb ^ j)).length ≤ 512
          · by_cases hl2 : (limbs (valOf p.la ^ j)).length ≤ 512
            · have hR4 : ∀ e w', QPowRes p k e w' = QRes (p.neg && decide (k % 2 ≠ 0)) (limbs (valOf p.lb ^ j)) (limbs (valOf p.la ^ j)) 0 e w' := fun e w' => by rw [HR3.out, if_pos ⟨hl1, hl2⟩]
              have hd5 : decide ((limbs (valOf p.lb ^ j)).length ≤ 512) = true := by simpa using hl1
              have hd6 : decide ((limbs (valOf p.la ^ j)).length ≤ 512) = true := by simpa using hl2
              obtain ⟨A3, c3, rfl, h3⟩ := HV3.out hl1
              obtain ⟨A4, c4, rfl, h4⟩ := HV4.out hl2
              have H3 : Sl _ := ⟨h3.below hb4⟩
              have H4 : Sl _ := ⟨h4⟩
              have HR4 : Sl _ := ⟨hR4⟩
              rw [hd6]
              clear h3 h4 hR4 HR3 HV3 HV4 hl1 hl2 hd6
              rcases hng : p.neg with _ | _
              all_goals (
                have hng2 := hng
                rw [hng] at t0
                have HNG : Sl _ := ⟨hng2⟩
                clear hng hng2
                go_wp2_with fail
                refine bodyPost_ret (results_row2 rfl _ _ (w.heap.size + 1) _ _ _ rfl (HB4.out.three _ _ _) Tryz.underlying25 rfl (by kernel_rfl)) rfl ?_
                rw [HR4.out, HNG.out, HPAR.out]
                exact ⟨⟨A3, c3, A4, c4, rfl, H3.out.three HB4.out ni1 ni2 ni2 _ _ _, H4.out.three HB4.out ni1 ni2 ni2 _ _ _⟩, below_three hu4 (by omega) _ _ _⟩)
            · have hR4 : ∀ e w', QPowRes p k e w' = QRes false [] [] 3 e w' := fun e w' => by rw [HR3.out, if_neg (fun h => hl2 h.2)]
              have hd5 : decide ((limbs (valOf p.lb ^ j)).length ≤ 512) = true := by simpa using hl1
              have hd6 : decide ((limbs (valOf p.la ^ j)).length ≤ 512) = false := by simpa using hl2
              have HR4 : Sl _ := ⟨hR4⟩
              rw [hd6]
              clear hR4 HR3 HV3 HV4 hl1 hl2 hd6
              go_wp2_with fail
              refine bodyPost_ret (results_row2 rfl _ _ (w.heap.size + 1) _ _ _ rfl (HB4.out.three _ _ _) Tryz.underlying25 rfl (by kernel_rfl)) rfl ?_
              rw [HR4.out]
              exact ⟨q_none _ _, below_three hu4 (by omega) _ _ _⟩
          · have hR4 : ∀ e w', QPowRes p k e w' = QRes false [] [] 3 e w' := fun e w' => by rw [HR3.out, if_neg (fun h => hl1 h.1)]
            have hd5 : decide ((limbs (valOf p.lb ^ j)).length ≤ 512) = false := by simpa using hl1
            have HR4 : Sl _ := ⟨hR4⟩
            generalize decide ((limbs (valOf p.la ^ j)).length ≤ 512) = d6
            clear hR4 HR3 HV3 HV4 hl1
            go_wp2_with fail
            refine bodyPost_ret (results_row2 rfl _ _ (w.heap.size + 1) _ _ _ rfl (HB4.out.three _ _ _) Tryz.underlying25 rfl (by kernel_rfl)) rfl ?_
            rw [HR4.out]
            exact ⟨q_none _ _, below_three hu4 (by omega) _ _ _⟩
      · have hd3 : decide (k < 0) = false := by simpa using hneg
        have HR2 : Sl _ := ⟨fun e w' => (HR1.out e w').trans (if_neg (fun h => hneg h.1))⟩
        obtain ⟨j, hj⟩ : ∃ j : Nat, k.natAbs = j := ⟨_, rfl⟩
        have hj2 : j ≤ 2000 := by omega
        have hkj : k = (j : Int) := by omega
        have HPAR : Sl (decide (k % 2 ≠ 0) = ((j : Int) % 2 != 0)) := ⟨by rw [Bool.eq_iff_iff]; simp; omega⟩
        have HBL : Sl _ := ⟨hbl2⟩
        have HBL0 : Sl _ := ⟨hbl02⟩
        clear hz hbl2 hbl02 HR1 hqc hna
        have hR3 : ∀ e w', QPowRes p k e w' = (if (limbs (valOf p.la ^ j)).length ≤ 512 ∧ (limbs (valOf p.lb ^ j)).length ≤ 512 then QRes (p.neg && decide (k % 2 ≠ 0)) (limbs (valOf p.la ^ j)) (limbs (valOf p.lb ^ j)) 0 e w' else QRes false [] [] 3 e w') := fun e w' => by
          rw [HR2.out, if_neg hneg, if_neg hneg, hj]
        have HR3 : Sl _ := ⟨hR3⟩
        clear hR3 HR2
        have hal : Below w2.heap.size w2 (w2.alloc (.cells #[.bool p.neg, .slice p.A p.n p.c, .slice p.B p.m p.d] 60)) := (Below.refl _ _).alloc (Nat.le_refl _) _
        have hbq := Blk.new w2 60 #[.bool p.neg, .slice p.A p.n p.c, .slice p.B p.m p.d]
        go_wp2_with fail
        rw [show max (j : Int) (-(j : Int)) = (j : Int) by omega]
        refine (pow_any p.A p.n p.c (valOf p.la) j _ (FP.out.num.below hal) FP.out.ln (by omega)).mono ?_; rintro e w3 ⟨⟨v3, rfl, hv3⟩, hb3⟩
        have hb3' := hal.trans (hb3.mono hal.size)
        have hbq3 := hbq.below hb3 hbq.lt
        have q2 := hbq3.cell 2
        simp at q2
        have HV3 : Sl _ := ⟨hv3⟩
        clear hv3
        go_wp2_with fail
        rw [show max (j : Int) (-(j : Int)) = (j : Int) by omega]
        refine (pow_any p.B p.m p.d (valOf p.lb) j _ (FP.out.den.below hb3') FP.out.ld (by omega)).mono ?_; rintro e w4 ⟨⟨v4, rfl, hv4⟩, hb4⟩
        have hb4' := hb3'.trans (hb4.mono hb3'.size)
        have hbo4 := HBL.out.below hb4' HBL.out.lt
        have hbi4 := HBL0.out.below hb4' HBL0.out.lt
        have t0 := hbi4.cell 0
        have y0 := hbo4.cell 0
        have y1 := hbo4.cell 1
        have y2 := hbo4.cell 2
        have g0 := hbo4.frozen 0
        have g1 := hbo4.frozen 1
        have g2 := hbo4.frozen 2
        simp at t0 y0 y1 y2
        have HB4 : Sl _ := ⟨hbo4⟩
        have HV4 : Sl _ := ⟨hv4⟩
        have hu4 := hu2.trans (hb4'.mono hu2.size)
        clear hv4 hbo4 hbi4 q2 hbq3 hbq
        by_cases hl1 : (limbs (valOf p.la ^ j)).length ≤ 512
        · by_cases hl2 : (limbs (valOf p.lb ^ j)).length ≤ 512
          · have hR4 : ∀ e w', QPowRes p k e w' = QRes (p.neg && decide (k % 2 ≠ 0)) (limbs (valOf p.la ^ j)) (limbs (valOf p.lb ^ j)) 0 e w' := fun e w' => by rw [HR3.out, if_pos ⟨hl1, hl2⟩]
            have hd5 : decide ((limbs (valOf p.la ^ j)).length ≤ 512) = true := by simpa using hl1
            have hd6 : decide ((limbs (valOf p.lb ^ j)).length ≤ 512) = true := by simpa using hl2
            obtain ⟨A3, c3, rfl, h3⟩ := HV3.out hl1
            obtain ⟨A4, c4, rfl, h4⟩ := HV4.out hl2
            have H3 : Sl _ := ⟨h3.below hb4⟩
            have H4 : Sl _ := ⟨h4⟩
            have HR4 : Sl _ := ⟨hR4⟩
            rw [hd6]
            clear h3 h4 hR4 HR3 HV3 HV4 hl1 hl2 hd6
            rcases hng : p.neg with _ | _
            all_goals (
              have hng2 := hng
              rw [hng] at t0
              have HNG : Sl _ := ⟨hng2⟩
              clear hng hng2
              go_wp2_with fail
              refine bodyPost_ret (results_row2 rfl _ _ (w.heap.size + 1) _ _ _ rfl (HB4.out.three _ _ _) Tryz.underlying25 rfl (by kernel_rfl)) rfl ?_
              rw [HR4.out, HNG.out, HPAR.out]
              exact ⟨⟨A3, c3, A4, c4, rfl, H3.out.three HB4.out ni1 ni2 ni2 _ _ _, H4.out.three HB4.out ni1 ni2 ni2 _ _ _⟩, below_three hu4 (by omega) _ _ _⟩)
          · have hR4 : ∀ e w', QPowRes p k e w' = QRes false [] [] 3 e w' := fun e w' => by rw [HR3.out, if_neg (fun h => hl2 h.2)]
            have hd5 : decide ((limbs (valOf p.la ^ j)).length ≤ 512) = true := by simpa using hl1
            have hd6 : decide ((limbs (valOf p.lb ^ j)).length ≤ 512) = false := by simpa using hl2
            have HR4 : Sl _ := ⟨hR4⟩
            rw [hd6]
            clear hR4 HR3 HV3 HV4 hl1 hl2 hd6
            go_wp2_with fail
            refine bodyPost_ret (results_row2 rfl _ _ (w.heap.size + 1) _ _ _ rfl (HB4.out.three _ _ _) Tryz.underlying25 rfl (by kernel_rfl)) rfl ?_
            rw [HR4.out]
            exact ⟨q_none _ _, below_three hu4 (by omega) _ _ _⟩
        · have hR4 : ∀ e w', QPowRes p k e w' = QRes false [] [] 3 e w' := fun e w' => by rw [HR3.out, if_neg (fun h => hl1 h.1)]
          have hd5 : decide ((limbs (valOf p.la ^ j)).length ≤ 512) = false := by simpa using hl1
          have HR4 : Sl _ := ⟨hR4⟩
          generalize decide ((limbs (valOf p.lb ^ j)).length ≤ 512) = d6
          clear hR4 HR3 HV3 HV4 hl1
          go_wp2_with fail
          refine bodyPost_ret (results_row2 rfl _ _ (w.heap.size + 1) _ _ _ rfl (HB4.out.three _ _ _) Tryz.underlying25 rfl (by kernel_rfl)) rfl ?_
          rw [HR4.out]
          exact ⟨q_none _ _, below_three hu4 (by omega) _ _ _⟩
  · have HR0 : Sl _ := ⟨fun e w' => (HR.out e w').trans (if_pos h0)⟩
    generalize checkQ (fun _ => p) 1 = er at *
    have hne : (er == 0) = false := by rw [beq_eq_false_iff_ne]; exact h0
    have HBL : Sl _ := ⟨hbl2⟩
    clear hbl2 h0 HR hbl02
    go_wp2_with fail
    refine bodyPost_ret (results_row2 rfl _ _ (w.heap.size + 1) _ _ _ rfl (HBL.out.three _ _ _) Tryz.underlying25 rfl (by kernel_rfl)) rfl ?_
    rw [HR0.out]
    exact ⟨q_none _ _, below_three hu2 (by omega) _ _ _⟩
end Go.Proofs.YtgjbaamhpapeeaaGreatDoor
