/- Fractions: the reference's QPow. -/
import Derived.Test.YtgjbaamhpapeeaaDoorQuoA
import Derived.Test.YtgjbaamhpapeeaaDoorLawS
namespace Go.Proofs.YtgjbaamhpapeeaaDoor
open Go.RowKit
set_option linter.unusedVariables false
set_option linter.unusedSimpArgs false

theorem low_pow {neg : Bool} {x y : Nat} (hg : Nat.gcd x y = 1) (hx : neg = true → x ≠ 0) (h1 : (limbs x).length ≤ 512) (h2 : (limbs y).length ≤ 512) (e : Ending) (w : World) : LowRes neg x y e w = QRes neg (limbs x) (limbs y) 0 e w := by
  have hs : (neg && decide (x ≠ 0)) = neg := by
    rcases neg with _ | _
    · rfl
    · simp [hx rfl]
  unfold LowRes
  simp only [lowS, hg, Nat.div_one, if_pos (And.intro h1 h2), hs]
theorem gcd_pow_one {a b : Nat} (h : Nat.gcd a b = 1) (j : Nat) : Nat.gcd (a ^ j) (b ^ j) = 1 := Nat.Coprime.pow j j h

set_option maxHeartbeats 3200000 in
set_option maxRecDepth 100000 in
theorem rQPow_any (p : QV) (k : Int) (w : World) (hp : p.ok w) (hk1 : -9223372036854775808 ≤ k) (hk2 : k ≤ 9223372036854775807) :
    Calls Tryd.prog 22 #[p.val, .int .i64 k] w fun e w' => QPowRes p k e w' ∧ Below w.heap.size w w' := by
  have HP : Sl _ := ⟨hp⟩
  clear hp
  have HR : Sl _ := ⟨QPowRes_eq p k⟩
  unfold QV.val qv
  go_enter Tryd.func22, Tryd.ntmps22
  go_wp2_with fail
  have hu : Below w.heap.size w (((w.alloc (.cells #[.bool p.neg, .slice p.A p.n p.c, .slice p.B p.m p.d] 32)).alloc (.cells #[.bool false, .slice none 0 0, .slice none 0 0] 32)).alloc (.cells #[.bool p.neg, .slice p.A p.n p.c, .slice p.B p.m p.d] 32)) := (((Below.refl _ _).alloc (Nat.le_refl _) _).alloc (by simp) _).alloc (by simp; omega) _
  have hqc := qcells_one ((w.alloc (.cells #[.bool p.neg, .slice p.A p.n p.c, .slice p.B p.m p.d] 32)).alloc (.cells #[.bool false, .slice none 0 0, .slice none 0 0] 32)) p 32
  have hbl0 := ((Blk.new w 32 #[.bool p.neg, .slice p.A p.n p.c, .slice p.B p.m p.d]).alloc (.cells #[.bool false, .slice none 0 0, .slice none 0 0] 32)).alloc (.cells #[.bool p.neg, .slice p.A p.n p.c, .slice p.B p.m p.d] 32)
  have hbl := (Blk.new (w.alloc (.cells #[.bool p.neg, .slice p.A p.n p.c, .slice p.B p.m p.d] 32)) 32 #[.bool false, .slice none 0 0, .slice none 0 0]).alloc (.cells #[.bool p.neg, .slice p.A p.n p.c, .slice p.B p.m p.d] 32)
  have e1 : (w.alloc (.cells #[.bool p.neg, .slice p.A p.n p.c, .slice p.B p.m p.d] 32)).heap.size = w.heap.size + 1 := by simp
  have e2 : ((w.alloc (.cells #[.bool p.neg, .slice p.A p.n p.c, .slice p.B p.m p.d] 32)).alloc (.cells #[.bool false, .slice none 0 0, .slice none 0 0] 32)).heap.size = w.heap.size + 1 + 1 := by simp
  rw [e1] at hbl
  rw [e2] at hqc
  clear e1 e2
  generalize (((w.alloc (.cells #[.bool p.neg, .slice p.A p.n p.c, .slice p.B p.m p.d] 32)).alloc (.cells #[.bool false, .slice none 0 0, .slice none 0 0] 32)).alloc (.cells #[.bool p.neg, .slice p.A p.n p.c, .slice p.B p.m p.d] 32)) = w1 at *
  have HP1 : Sl _ := ⟨HP.out.below hu⟩
  have HCK : Sl _ := ⟨rbadq_any (w.heap.size + 1 + 1) 1 1 (fun _ => p) w1 (by decide) hqc (fun _ _ => HP1.out)⟩
  clear hqc
  refine HCK.out.mono ?_; rintro e w2 ⟨rfl, hb2⟩
  have hu2 := hu.trans (hb2.mono hu.size)
  have hbl2 := hbl.below hb2 hbl.lt
  have hbl02 := hbl0.below hb2 hbl0.lt
  clear HCK hbl hbl0
  have r0 := hbl2.cell 0
  have r1 := hbl2.cell 1
  have r2 := hbl2.cell 2
  have f0 := hbl2.frozen 0
  have f1 := hbl2.frozen 1
  have f2 := hbl2.frozen 2
  simp at r0 r1 r2
  by_cases h0 : checkQ (fun _ => p) 1 = 0
  · have hpp := checkQ_zero h0 0 (by decide)
    have FP : Sl (p.Fine w2) := ⟨QV.fine (HP1.out.below hb2) hpp⟩
    have HR0 : Sl _ := ⟨fun e w' => (HR.out e w').trans (if_neg (by rw [h0]; simp))⟩
    rw [h0]
    clear hpp h0 HR
    have s0 := hbl02.cell 0
    have s1 := hbl02.cell 1
    have s2 := hbl02.cell 2
    simp at s0 s1 s2
    by_cases hr : k < -2000 ∨ 2000 < k
    · have HR1 : Sl _ := ⟨fun e w' => (HR0.out e w').trans (if_pos hr)⟩
      have HBL : Sl _ := ⟨hbl2⟩
      clear hbl2 HR0 s0 s1 s2 hbl02
      by_cases hr1 : k < -2000
      · have hd1 : decide (k < -2000) = true := by simpa using hr1
        clear hr1 hr
        go_wp2_with fail
        refine bodyPost_ret (results_row2 rfl _ _ (w.heap.size + 1) _ _ _ rfl (HBL.out.three _ _ _) Tryd.underlying32 rfl (by kernel_rfl)) rfl ?_
        rw [HR1.out]
        exact ⟨q_none _ _, below_three hu2 (by omega) _ _ _⟩
      · have hd1 : decide (k < -2000) = false := by simpa using hr1
        have hd2 : decide (2000 < k) = true := by simp; omega
        clear hr1 hr
        go_wp2_with fail
        refine bodyPost_ret (results_row2 rfl _ _ (w.heap.size + 1) _ _ _ rfl (HBL.out.three _ _ _) Tryd.underlying32 rfl (by kernel_rfl)) rfl ?_
        rw [HR1.out]
        exact ⟨q_none _ _, below_three hu2 (by omega) _ _ _⟩
    · have HR1 : Sl _ := ⟨fun e w' => (HR0.out e w').trans (if_neg hr)⟩
      have hd1 : decide (k < -2000) = false := by simp; omega
      have hd2 : decide (2000 < k) = false := by simp; omega
      clear HR0
      have hna := FP.out.num.1.len
      have hz : p.n = 0 ↔ valOf p.la = 0 := by rw [← hna, List.length_eq_zero_iff, limbs_nil_iff]
      by_cases hneg : k < 0
      · have hd3 : decide (k < 0) = true := by simpa using hneg
        by_cases hzero : valOf p.la = 0
        · have HR2 : Sl _ := ⟨fun e w' => (HR1.out e w').trans (if_pos ⟨hneg, hzero⟩)⟩
          have hn0 := hz.2 hzero
          have HBL : Sl _ := ⟨hbl2⟩
          rw [hn0] at s1
          clear hz hzero hneg hbl2 hbl02 HR1 hr hna
          go_wp2_with fail
          refine bodyPost_ret (results_row2 rfl _ _ (w.heap.size + 1) _ _ _ rfl (HBL.out.three _ _ _) Tryd.underlying32 rfl (by kernel_rfl)) rfl ?_
          rw [HR2.out]
          exact ⟨q_none _ _, below_three hu2 (by omega) _ _ _⟩
        · have HR2 : Sl _ := ⟨fun e w' => (HR1.out e w').trans (if_neg (fun h => hzero h.2))⟩
          have hn0 : ((p.n : Int) == 0) = false := by rw [beq_eq_false_iff_ne]; intro h; exact hzero (hz.1 (by omega))
          obtain ⟨j, hj⟩ : ∃ j : Nat, k.natAbs = j := ⟨_, rfl⟩
          have hj2 : j ≤ 2000 := by omega
          have hkj : k = -(j : Int) := by omega
          have HPAR : Sl (decide (k % 2 ≠ 0) = (-((j : Int) % 2) != 0)) := ⟨by rw [Bool.eq_iff_iff]; simp; omega⟩
          have HBL : Sl _ := ⟨hbl2⟩
          have HBL0 : Sl _ := ⟨hbl02⟩
          have HZ : Sl (valOf p.la ^ j ≠ 0) := ⟨by
            refine Nat.pos_iff_ne_zero.1 (Nat.pow_pos (Nat.pos_of_ne_zero ?_))
            exact hzero⟩
          have HNX : Sl (p.neg = true → valOf p.lb ^ j ≠ 0) := ⟨fun h => by
            refine Nat.pos_iff_ne_zero.1 (Nat.pow_pos (Nat.pos_of_ne_zero ?_))
            exact FP.out.pos⟩
          have HGC : Sl (Nat.gcd (valOf p.lb ^ j) (valOf p.la ^ j) = 1) := ⟨gcd_pow_one (by rw [Nat.gcd_comm]; exact FP.out.one) j⟩
          clear hz hzero hbl2 hbl02 HR1 hna
          have hR3 : ∀ e w', QPowRes p k e w' = (if (limbs (valOf p.lb ^ j)).length ≤ 512 ∧ (limbs (valOf p.la ^ j)).length ≤ 512 then QRes (p.neg && decide (k % 2 ≠ 0)) (limbs (valOf p.lb ^ j)) (limbs (valOf p.la ^ j)) 0 e w' else QRes false [] [] 3 e w') := fun e w' => by
            rw [HR2.out, if_pos hneg, if_pos hneg, hj]
          have HR3 : Sl _ := ⟨hR3⟩
          clear hR3 HR2
          go_wp2_with fail
          go_quiet (fail)
          have hu3 := below_drewN hu2 nq
          have hdr := below_drewN (Below.refl w2.heap.size w2) nq
          have FP1 : Sl _ := ⟨FP.out.den.below hdr⟩
          have FP2 : Sl _ := ⟨FP.out.num.below hdr⟩
          have HBL3 : Sl _ := ⟨HBL.out.drewN nq⟩
          have HBL03 : Sl _ := ⟨HBL0.out.drewN nq⟩
          have FL1 : Sl _ := ⟨FP.out.ld⟩
          have FL2 : Sl _ := ⟨FP.out.ln⟩
          clear HBL HBL0 FP hdr r0 r1 r2 f0 f1 f2 s0 s1 s2
          generalize w2.drewN nq = w3 at *
          go_wp2_with fail
          rw [show max (-(j : Int)) (j : Int) = (j : Int) by omega]
          refine (rpower_any p.B p.m p.d (valOf p.lb) j w3 FP1.out (by have := FL1.out; omega) (by omega)).mono ?_; rintro e w4 ⟨⟨v4, rfl, hv4⟩, hb4⟩
          have HV4 : Sl _ := ⟨hv4⟩
          have FP24 : Sl _ := ⟨FP2.out.below hb4⟩
          have hu4 := hu3.trans (hb4.mono hu3.size)
          clear hv4
          generalize hdd1 : decide ((limbs (valOf p.lb ^ j)).length ≤ 512) = dd1
          have HDD1 : Sl _ := ⟨hdd1⟩
          clear hdd1
          go_wp2_with fail
          rw [show max (-(j : Int)) (j : Int) = (j : Int) by omega]
          refine (rpower_any p.A p.n p.c (valOf p.la) j w4 FP24.out (by have := FL2.out; omega) (by omega)).mono ?_; rintro e w5 ⟨⟨v5, rfl, hv5⟩, hb5⟩
          have HV5 : Sl _ := ⟨hv5⟩
          have hu5 := hu4.trans (hb5.mono hu4.size)
          have hb35 := hb4.trans (hb5.mono hb4.size)
          have hbo5 := HBL3.out.below hb35 HBL3.out.lt
          have hbi5 := HBL03.out.below hb35 HBL03.out.lt
          have t0 := hbi5.cell 0
          have y0 := hbo5.cell 0
          have y1 := hbo5.cell 1
          have y2 := hbo5.cell 2
          have g0 := hbo5.frozen 0
          have g1 := hbo5.frozen 1
          have g2 := hbo5.frozen 2
          simp at t0 y0 y1 y2
          have HB5 : Sl _ := ⟨hbo5⟩
          clear hv5 hbo5 hbi5
          by_cases hl1 : (limbs (valOf p.lb ^ j)).length ≤ 512
          · rw [decide_eq_true hl1] at HDD1
            have hd1' := HDD1.out
            subst hd1'
            by_cases hl2 : (limbs (valOf p.la ^ j)).length ≤ 512
            · have hR4 : ∀ e w', QPowRes p k e w' = QRes (p.neg && decide (k % 2 ≠ 0)) (limbs (valOf p.lb ^ j)) (limbs (valOf p.la ^ j)) 0 e w' := fun e w' => by rw [HR3.out, if_pos ⟨hl1, hl2⟩]
              obtain ⟨A4, c4, q4, h4⟩ := HV4.out hl1
              obtain ⟨A5, c5, q5, h5⟩ := HV5.out hl2
              subst q4 q5
              have H4 : Sl _ := ⟨h4.below hb5⟩
              have H5 : Sl _ := ⟨h5⟩
              have HR4 : Sl _ := ⟨hR4⟩
              rw [decide_eq_true hl2]
              have hlo := fun (ng : Bool) => rlowest_any ng A4 A5 _ _ c4 c5 (valOf p.lb ^ j) (valOf p.la ^ j) w5 H4.out H5.out (by omega) (by omega) HZ.out
              have HLO : Sl _ := ⟨hlo⟩
              have HLP : Sl _ := ⟨fun (ng : Bool) (h : ng = true → valOf p.lb ^ j ≠ 0) (e : Ending) (w' : World) => low_pow (neg := ng) HGC.out h hl1 hl2 e w'⟩
              clear h4 h5 hR4 HR3 HV4 HV5 hl1 hl2 hlo HDD1
              rcases hng : p.neg with _ | _
              · rw [hng] at t0
                have HNG : Sl _ := ⟨hng⟩
                clear hng
                go_wp2_with fail
                refine (HLO.out false).mono ?_; rintro e w6 ⟨hq6, hb6⟩
                rw [HLP.out false (fun h => by cases h)] at hq6
                obtain ⟨A6, c6, B6, d6, rfl, k1, k2⟩ := hq6
                have hu6 := hu5.trans (hb6.mono hu5.size)
                have hbo6 := HB5.out.below hb6 HB5.out.lt
                have K1 : Sl _ := ⟨k1⟩
                have K2 : Sl _ := ⟨k2⟩
                have z0 := hbo6.cell 0
                have z1 := hbo6.cell 1
                have z2 := hbo6.cell 2
                have e0 := hbo6.frozen 0
                have e1 := hbo6.frozen 1
                have e2 := hbo6.frozen 2
                simp at z0 z1 z2
                have HB6 : Sl _ := ⟨hbo6⟩
                clear k1 k2 hbo6 HLO HLP
                unfold qv
                go_wp2_with fail
                refine bodyPost_ret (results_row2 rfl _ _ (w.heap.size + 1) _ _ _ rfl (HB6.out.three _ _ _) Tryd.underlying32 rfl (by kernel_rfl)) rfl ?_
                rw [HR4.out, HNG.out, Bool.false_and]
                exact ⟨QRes.three K1.out K2.out HB6.out _ _ _, below_three hu6 (by omega) _ _ _⟩
              · rw [hng] at t0
                have HNG : Sl _ := ⟨hng⟩
                clear hng
                go_wp2_with fail
                rw [← HPAR.out]
                generalize decide (k % 2 ≠ 0) = pb at *
                refine (HLO.out _).mono ?_; rintro e w6 ⟨hq6, hb6⟩
                rw [HLP.out _ (fun h => HNX.out HNG.out)] at hq6
                obtain ⟨A6, c6, B6, d6, rfl, k1, k2⟩ := hq6
                have hu6 := hu5.trans (hb6.mono hu5.size)
                have hbo6 := HB5.out.below hb6 HB5.out.lt
                have K1 : Sl _ := ⟨k1⟩
                have K2 : Sl _ := ⟨k2⟩
                have z0 := hbo6.cell 0
                have z1 := hbo6.cell 1
                have z2 := hbo6.cell 2
                have e0 := hbo6.frozen 0
                have e1 := hbo6.frozen 1
                have e2 := hbo6.frozen 2
                simp at z0 z1 z2
                have HB6 : Sl _ := ⟨hbo6⟩
                clear k1 k2 hbo6 HLO HLP
                unfold qv
                go_wp2_with fail
                refine bodyPost_ret (results_row2 rfl _ _ (w.heap.size + 1) _ _ _ rfl (HB6.out.three _ _ _) Tryd.underlying32 rfl (by kernel_rfl)) rfl ?_
                rw [HR4.out, HNG.out, Bool.true_and]
                exact ⟨QRes.three K1.out K2.out HB6.out _ _ _, below_three hu6 (by omega) _ _ _⟩
            · have hR4 : ∀ e w', QPowRes p k e w' = QRes false [] [] 3 e w' := fun e w' => by rw [HR3.out, if_neg (fun h => hl2 h.2)]
              have HR4 : Sl _ := ⟨hR4⟩
              rw [decide_eq_false hl2]
              clear hR4 HR3 HV4 HV5 hl1 hl2 HDD1
              go_wp2_with fail
              refine bodyPost_ret (results_row2 rfl _ _ (w.heap.size + 1) _ _ _ rfl (HB5.out.three _ _ _) Tryd.underlying32 rfl (by kernel_rfl)) rfl ?_
              rw [HR4.out]
              exact ⟨q_none _ _, below_three hu5 (by omega) _ _ _⟩
          · rw [decide_eq_false hl1] at HDD1
            have hd1' := HDD1.out
            subst hd1'
            have hR4 : ∀ e w', QPowRes p k e w' = QRes false [] [] 3 e w' := fun e w' => by rw [HR3.out, if_neg (fun h => hl1 h.1)]
            have HR4 : Sl _ := ⟨hR4⟩
            generalize decide ((limbs (valOf p.la ^ j)).length ≤ 512) = d6
            clear hR4 HR3 HV4 HV5 hl1 HDD1
            go_wp2_with fail
            refine bodyPost_ret (results_row2 rfl _ _ (w.heap.size + 1) _ _ _ rfl (HB5.out.three _ _ _) Tryd.underlying32 rfl (by kernel_rfl)) rfl ?_
            rw [HR4.out]
            exact ⟨q_none _ _, below_three hu5 (by omega) _ _ _⟩
      · have hd3 : decide (k < 0) = false := by simpa using hneg
        have HR2 : Sl _ := ⟨fun e w' => (HR1.out e w').trans (if_neg (fun h => hneg h.1))⟩
        obtain ⟨j, hj⟩ : ∃ j : Nat, k.natAbs = j := ⟨_, rfl⟩
        have hj2 : j ≤ 2000 := by omega
        have hkj : k = (j : Int) := by omega
        have HPAR : Sl (decide (k % 2 ≠ 0) = ((j : Int) % 2 != 0)) := ⟨by rw [Bool.eq_iff_iff]; simp; omega⟩
        have HBL : Sl _ := ⟨hbl2⟩
        have HBL0 : Sl _ := ⟨hbl02⟩
        have HZ : Sl (valOf p.lb ^ j ≠ 0) := ⟨by
          refine Nat.pos_iff_ne_zero.1 (Nat.pow_pos (Nat.pos_of_ne_zero ?_))
          exact FP.out.pos⟩
        have HNX : Sl (p.neg = true → valOf p.la ^ j ≠ 0) := ⟨fun h => by
          refine Nat.pos_iff_ne_zero.1 (Nat.pow_pos (Nat.pos_of_ne_zero ?_))
          exact FP.out.neg h⟩
        have HGC : Sl (Nat.gcd (valOf p.la ^ j) (valOf p.lb ^ j) = 1) := ⟨gcd_pow_one (FP.out.one) j⟩
        clear hz hbl2 hbl02 HR1 hna
        have hR3 : ∀ e w', QPowRes p k e w' = (if (limbs (valOf p.la ^ j)).length ≤ 512 ∧ (limbs (valOf p.lb ^ j)).length ≤ 512 then QRes (p.neg && decide (k % 2 ≠ 0)) (limbs (valOf p.la ^ j)) (limbs (valOf p.lb ^ j)) 0 e w' else QRes false [] [] 3 e w') := fun e w' => by
          rw [HR2.out, if_neg hneg, if_neg hneg, hj]
        have HR3 : Sl _ := ⟨hR3⟩
        clear hR3 HR2
        go_wp2_with fail
        go_quiet (fail)
        have hu3 := below_drewN hu2 nq
        have hdr := below_drewN (Below.refl w2.heap.size w2) nq
        have FP1 : Sl _ := ⟨FP.out.num.below hdr⟩
        have FP2 : Sl _ := ⟨FP.out.den.below hdr⟩
        have HBL3 : Sl _ := ⟨HBL.out.drewN nq⟩
        have HBL03 : Sl _ := ⟨HBL0.out.drewN nq⟩
        have FL1 : Sl _ := ⟨FP.out.ln⟩
        have FL2 : Sl _ := ⟨FP.out.ld⟩
        clear HBL HBL0 FP hdr r0 r1 r2 f0 f1 f2 s0 s1 s2
        generalize w2.drewN nq = w3 at *
        go_wp2_with fail
        rw [show max (j : Int) (-(j : Int)) = (j : Int) by omega]
        refine (rpower_any p.A p.n p.c (valOf p.la) j w3 FP1.out (by have := FL1.out; omega) (by omega)).mono ?_; rintro e w4 ⟨⟨v4, rfl, hv4⟩, hb4⟩
        have HV4 : Sl _ := ⟨hv4⟩
        have FP24 : Sl _ := ⟨FP2.out.below hb4⟩
        have hu4 := hu3.trans (hb4.mono hu3.size)
        clear hv4
        generalize hdd1 : decide ((limbs (valOf p.la ^ j)).length ≤ 512) = dd1
        have HDD1 : Sl _ := ⟨hdd1⟩
        clear hdd1
        go_wp2_with fail
        rw [show max (j : Int) (-(j : Int)) = (j : Int) by omega]
        refine (rpower_any p.B p.m p.d (valOf p.lb) j w4 FP24.out (by have := FL2.out; omega) (by omega)).mono ?_; rintro e w5 ⟨⟨v5, rfl, hv5⟩, hb5⟩
        have HV5 : Sl _ := ⟨hv5⟩
        have hu5 := hu4.trans (hb5.mono hu4.size)
        have hb35 := hb4.trans (hb5.mono hb4.size)
        have hbo5 := HBL3.out.below hb35 HBL3.out.lt
        have hbi5 := HBL03.out.below hb35 HBL03.out.lt
        have t0 := hbi5.cell 0
        have y0 := hbo5.cell 0
        have y1 := hbo5.cell 1
        have y2 := hbo5.cell 2
        have g0 := hbo5.frozen 0
        have g1 := hbo5.frozen 1
        have g2 := hbo5.frozen 2
        simp at t0 y0 y1 y2
        have HB5 : Sl _ := ⟨hbo5⟩
        clear hv5 hbo5 hbi5
        by_cases hl1 : (limbs (valOf p.la ^ j)).length ≤ 512
        · rw [decide_eq_true hl1] at HDD1
          have hd1' := HDD1.out
          subst hd1'
          by_cases hl2 : (limbs (valOf p.lb ^ j)).length ≤ 512
          · have hR4 : ∀ e w', QPowRes p k e w' = QRes (p.neg && decide (k % 2 ≠ 0)) (limbs (valOf p.la ^ j)) (limbs (valOf p.lb ^ j)) 0 e w' := fun e w' => by rw [HR3.out, if_pos ⟨hl1, hl2⟩]
            obtain ⟨A4, c4, q4, h4⟩ := HV4.out hl1
            obtain ⟨A5, c5, q5, h5⟩ := HV5.out hl2
            subst q4 q5
            have H4 : Sl _ := ⟨h4.below hb5⟩
            have H5 : Sl _ := ⟨h5⟩
            have HR4 : Sl _ := ⟨hR4⟩
            rw [decide_eq_true hl2]
            have hlo := fun (ng : Bool) => rlowest_any ng A4 A5 _ _ c4 c5 (valOf p.la ^ j) (valOf p.lb ^ j) w5 H4.out H5.out (by omega) (by omega) HZ.out
            have HLO : Sl _ := ⟨hlo⟩
            have HLP : Sl _ := ⟨fun (ng : Bool) (h : ng = true → valOf p.la ^ j ≠ 0) (e : Ending) (w' : World) => low_pow (neg := ng) HGC.out h hl1 hl2 e w'⟩
            clear h4 h5 hR4 HR3 HV4 HV5 hl1 hl2 hlo HDD1
            rcases hng : p.neg with _ | _
            · rw [hng] at t0
              have HNG : Sl _ := ⟨hng⟩
              clear hng
              go_wp2_with fail
              refine (HLO.out false).mono ?_; rintro e w6 ⟨hq6, hb6⟩
              rw [HLP.out false (fun h => by cases h)] at hq6
              obtain ⟨A6, c6, B6, d6, rfl, k1, k2⟩ := hq6
              have hu6 := hu5.trans (hb6.mono hu5.size)
              have hbo6 := HB5.out.below hb6 HB5.out.lt
              have K1 : Sl _ := ⟨k1⟩
              have K2 : Sl _ := ⟨k2⟩
              have z0 := hbo6.cell 0
              have z1 := hbo6.cell 1
              have z2 := hbo6.cell 2
              have e0 := hbo6.frozen 0
              have e1 := hbo6.frozen 1
              have e2 := hbo6.frozen 2
              simp at z0 z1 z2
              have HB6 : Sl _ := ⟨hbo6⟩
              clear k1 k2 hbo6 HLO HLP
              unfold qv
              go_wp2_with fail
              refine bodyPost_ret (results_row2 rfl _ _ (w.heap.size + 1) _ _ _ rfl (HB6.out.three _ _ _) Tryd.underlying32 rfl (by kernel_rfl)) rfl ?_
              rw [HR4.out, HNG.out, Bool.false_and]
              exact ⟨QRes.three K1.out K2.out HB6.out _ _ _, below_three hu6 (by omega) _ _ _⟩
            · rw [hng] at t0
              have HNG : Sl _ := ⟨hng⟩
              clear hng
              go_wp2_with fail
              rw [← HPAR.out]
              generalize decide (k % 2 ≠ 0) = pb at *
              refine (HLO.out _).mono ?_; rintro e w6 ⟨hq6, hb6⟩
              rw [HLP.out _ (fun h => HNX.out HNG.out)] at hq6
              obtain ⟨A6, c6, B6, d6, rfl, k1, k2⟩ := hq6
              have hu6 := hu5.trans (hb6.mono hu5.size)
              have hbo6 := HB5.out.below hb6 HB5.out.lt
              have K1 : Sl _ := ⟨k1⟩
              have K2 : Sl _ := ⟨k2⟩
              have z0 := hbo6.cell 0
              have z1 := hbo6.cell 1
              have z2 := hbo6.cell 2
              have e0 := hbo6.frozen 0
              have e1 := hbo6.frozen 1
              have e2 := hbo6.frozen 2
              simp at z0 z1 z2
              have HB6 : Sl _ := ⟨hbo6⟩
              clear k1 k2 hbo6 HLO HLP
              unfold qv
              go_wp2_with fail
              refine bodyPost_ret (results_row2 rfl _ _ (w.heap.size + 1) _ _ _ rfl (HB6.out.three _ _ _) Tryd.underlying32 rfl (by kernel_rfl)) rfl ?_
              rw [HR4.out, HNG.out, Bool.true_and]
              exact ⟨QRes.three K1.out K2.out HB6.out _ _ _, below_three hu6 (by omega) _ _ _⟩
          · have hR4 : ∀ e w', QPowRes p k e w' = QRes false [] [] 3 e w' := fun e w' => by rw [HR3.out, if_neg (fun h => hl2 h.2)]
            have HR4 : Sl _ := ⟨hR4⟩
            rw [decide_eq_false hl2]
            clear hR4 HR3 HV4 HV5 hl1 hl2 HDD1
            go_wp2_with fail
            refine bodyPost_ret (results_row2 rfl _ _ (w.heap.size + 1) _ _ _ rfl (HB5.out.three _ _ _) Tryd.underlying32 rfl (by kernel_rfl)) rfl ?_
            rw [HR4.out]
            exact ⟨q_none _ _, below_three hu5 (by omega) _ _ _⟩
        · rw [decide_eq_false hl1] at HDD1
          have hd1' := HDD1.out
          subst hd1'
          have hR4 : ∀ e w', QPowRes p k e w' = QRes false [] [] 3 e w' := fun e w' => by rw [HR3.out, if_neg (fun h => hl1 h.1)]
          have HR4 : Sl _ := ⟨hR4⟩
          generalize decide ((limbs (valOf p.lb ^ j)).length ≤ 512) = d6
          clear hR4 HR3 HV4 HV5 hl1 HDD1
          go_wp2_with fail
          refine bodyPost_ret (results_row2 rfl _ _ (w.heap.size + 1) _ _ _ rfl (HB5.out.three _ _ _) Tryd.underlying32 rfl (by kernel_rfl)) rfl ?_
          rw [HR4.out]
          exact ⟨q_none _ _, below_three hu5 (by omega) _ _ _⟩
  · have HR0 : Sl _ := ⟨fun e w' => (HR.out e w').trans (if_pos h0)⟩
    generalize checkQ (fun _ => p) 1 = er at *
    have hne : (er == 0) = false := by rw [beq_eq_false_iff_ne]; exact h0
    have HBL : Sl _ := ⟨hbl2⟩
    clear hbl2 h0 HR hbl02
    go_wp2_with fail
    refine bodyPost_ret (results_row2 rfl _ _ (w.heap.size + 1) _ _ _ rfl (HBL.out.three _ _ _) Tryd.underlying32 rfl (by kernel_rfl)) rfl ?_
    rw [HR0.out]
    exact ⟨q_none _ _, below_three hu2 (by omega) _ _ _⟩
end Go.Proofs.YtgjbaamhpapeeaaDoor
