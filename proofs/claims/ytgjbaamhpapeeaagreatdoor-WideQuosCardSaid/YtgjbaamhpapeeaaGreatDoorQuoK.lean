/- Fractions: the reference's QCmp, QFloor. -/
import Derived.Test.YtgjbaamhpapeeaaGreatDoorQuoJ
import Derived.Test.YtgjbaamhpapeeaaGreatDoorQuoD
namespace Go.Proofs.YtgjbaamhpapeeaaGreatDoor
set_option linter.unusedSimpArgs false
open Go.RowKit
set_option linter.unusedVariables false

theorem order_at (A B : Option Addr) (n m c d a b : Nat) (w0 w : World) (ha : U w A n (limbs a)) (hb : U w B m (limbs b)) (hw : Below w0.heap.size w0 w) (hn : n ≤ 1000000) (hm : m ≤ 1000000) :
    Calls Tryz.prog 42 #[.slice A n c, .slice B m d] w fun e w' => e = .returned (.int .i64 (cmpN a b)) ∧ Below w.heap.size w w' ∧ Below w0.heap.size w0 w' :=
  (order_to A B n m c d a b w ha hb hn hm).mono fun e w' ⟨h1, h2⟩ => by
    subst h2
    exact ⟨h1, Below.refl _ _, hw⟩

set_option maxHeartbeats 1600000 in
set_option maxRecDepth 100000 in
theorem rQCmp_any (p q : QV) (w : World) (hp : p.ok w) (hq : q.ok w) :
    Calls Tryz.prog 18 #[p.val, q.val] w fun e w' => e = .returned (.tuple #[.int .i64 (QCmpS p q).1, .int .i64 (QCmpS p q).2]) ∧ Below w.heap.size w w' := by
  have HP : Sl _ := ⟨hp⟩
  have HQ : Sl _ := ⟨hq⟩
  clear hp hq
  have hres : QCmpS p q = if checkQ (two p q) 2 = 0 then (qcmpN p.neg (valOf p.la) (valOf p.lb) q.neg (valOf q.la) (valOf q.lb), 0) else (0, checkQ (two p q) 2) := rfl
  have HR : Sl _ := ⟨hres⟩
  clear hres
  unfold QV.val qv
  go_enter Tryz.func18, Tryz.ntmps18
  go_wp2_with fail
  have hu : Below w.heap.size w (((w.alloc (.cells #[.bool p.neg, .slice p.A p.n p.c, .slice p.B p.m p.d] 25)).alloc (.cells #[.bool q.neg, .slice q.A q.n q.c, .slice q.B q.m q.d] 25)).alloc (.cells #[.bool p.neg, .slice p.A p.n p.c, .slice p.B p.m p.d, .bool q.neg, .slice q.A q.n q.c, .slice q.B q.m q.d] 25)) := (((Below.refl _ _).alloc (Nat.le_refl _) _).alloc (by simp) _).alloc (by simp; omega) _
  have hqc := qcells_two ((w.alloc (.cells #[.bool p.neg, .slice p.A p.n p.c, .slice p.B p.m p.d] 25)).alloc (.cells #[.bool q.neg, .slice q.A q.n q.c, .slice q.B q.m q.d] 25)) p q 25
  have hbp := ((Blk.new w 25 #[.bool p.neg, .slice p.A p.n p.c, .slice p.B p.m p.d]).alloc (.cells #[.bool q.neg, .slice q.A q.n q.c, .slice q.B q.m q.d] 25)).alloc (.cells #[.bool p.neg, .slice p.A p.n p.c, .slice p.B p.m p.d, .bool q.neg, .slice q.A q.n q.c, .slice q.B q.m q.d] 25)
  have hbq := (Blk.new (w.alloc (.cells #[.bool p.neg, .slice p.A p.n p.c, .slice p.B p.m p.d] 25)) 25 #[.bool q.neg, .slice q.A q.n q.c, .slice q.B q.m q.d]).alloc (.cells #[.bool p.neg, .slice p.A p.n p.c, .slice p.B p.m p.d, .bool q.neg, .slice q.A q.n q.c, .slice q.B q.m q.d] 25)
  have e1 : (w.alloc (.cells #[.bool p.neg, .slice p.A p.n p.c, .slice p.B p.m p.d] 25)).heap.size = w.heap.size + 1 := by simp
  have e2 : ((w.alloc (.cells #[.bool p.neg, .slice p.A p.n p.c, .slice p.B p.m p.d] 25)).alloc (.cells #[.bool q.neg, .slice q.A q.n q.c, .slice q.B q.m q.d] 25)).heap.size = w.heap.size + 1 + 1 := by simp
  rw [e1] at hbq
  rw [e2] at hqc
  clear e1 e2
  generalize (((w.alloc (.cells #[.bool p.neg, .slice p.A p.n p.c, .slice p.B p.m p.d] 25)).alloc (.cells #[.bool q.neg, .slice q.A q.n q.c, .slice q.B q.m q.d] 25)).alloc (.cells #[.bool p.neg, .slice p.A p.n p.c, .slice p.B p.m p.d, .bool q.neg, .slice q.A q.n q.c, .slice q.B q.m q.d] 25)) = w1 at *
  have HP1 : Sl _ := ⟨HP.out.below hu⟩
  have HQ1 : Sl _ := ⟨HQ.out.below hu⟩
  have HCK : Sl _ := ⟨rbadq_any (w.heap.size + 1 + 1) 2 2 (two p q) w1 (by decide) hqc (two_ok HP1.out HQ1.out)⟩
  clear hqc
  refine HCK.out.mono ?_; rintro e w2 ⟨rfl, hb2⟩
  have hu2 := hu.trans (hb2.mono hu.size)
  have hbp2 := hbp.below hb2 hbp.lt
  have hbq2 := hbq.below hb2 hbq.lt
  clear HCK hbp hbq
  by_cases h0 : checkQ (two p q) 2 = 0
  · have hpp := checkQ_zero h0 0 (by decide)
    have hqq := checkQ_zero h0 1 (by decide)
    have FP : Sl (p.Fine w2) := ⟨QV.fine (HP1.out.below hb2) hpp⟩
    have FQ : Sl (q.Fine w2) := ⟨QV.fine (HQ1.out.below hb2) hqq⟩
    have HR0 : Sl _ := ⟨HR.out.trans (if_pos h0)⟩
    rw [h0]
    clear hpp hqq h0 HR
    have T1 : Sl _ := ⟨rtimes_at p.A q.B p.n q.m p.c q.d (valOf p.la) (valOf q.lb) w2 FP.out.num.1 FQ.out.den.1 (by have := FP.out.ln; omega) (by have := FQ.out.ld; omega)⟩
    have T2 : Sl _ := ⟨rtimes_at q.A p.B q.n p.m q.c p.d (valOf q.la) (valOf p.lb) w2 FQ.out.num.1 FP.out.den.1 (by have := FQ.out.ln; omega) (by have := FP.out.ld; omega)⟩
    have hl1 : (limbs (valOf p.la * valOf q.lb)).length ≤ 1000000 := by
      have k1 := limbs_len_mul (valOf p.la) (valOf q.lb); have k2 := FP.out.num.1.len; have k3 := FQ.out.den.1.len; have k4 := FP.out.ln; have k5 := FQ.out.ld; omega
    have hl2 : (limbs (valOf q.la * valOf p.lb)).length ≤ 1000000 := by
      have k1 := limbs_len_mul (valOf q.la) (valOf p.lb); have k2 := FQ.out.num.1.len; have k3 := FP.out.den.1.len; have k4 := FQ.out.ln; have k5 := FP.out.ld; omega
    have HL1 : Sl _ := ⟨hl1⟩
    have HL2 : Sl _ := ⟨hl2⟩
    have hS : Sl (∀ w' : World, RowKit.Below w2.heap.size w2 w' → w'.cell? ⟨w.heap.size, 1, none⟩ = some (.slice p.A p.n p.c) ∧ w'.cell? ⟨w.heap.size, 2, none⟩ = some (.slice p.B p.m p.d) ∧ w'.cell? ⟨w.heap.size + 1, 1, none⟩ = some (.slice q.A q.n q.c) ∧ w'.cell? ⟨w.heap.size + 1, 2, none⟩ = some (.slice q.B q.m q.d) ∧ RowKit.Below w2.heap.size w2 w') := ⟨fun w' h => by
      have e1 := hbp2.below h hbp2.lt
      have e2 := hbq2.below h hbq2.lt
      exact ⟨e1.cell 1, e1.cell 2, e2.cell 1, e2.cell 2, h⟩⟩
    have HBP : Sl _ := ⟨hbp2⟩
    have HBQ : Sl _ := ⟨hbq2⟩
    clear hl1 hl2 FP FQ HP1 HQ1 HP HQ hbq2 hbp2
    obtain ⟨q1, q2, q3, q4, q5⟩ := hS.out w2 (Below.refl _ _)
    have q5d : RowKit.Below w2.heap.size w2 w2.drew := below_drewN q5 1
    go_wp2_with fail
    go_region_held3 (fun w' => w'.cell? ⟨w.heap.size, 1, none⟩ = some (.slice p.A p.n p.c) ∧ w'.cell? ⟨w.heap.size, 2, none⟩ = some (.slice p.B p.m p.d) ∧ w'.cell? ⟨w.heap.size + 1, 1, none⟩ = some (.slice q.A q.n q.c) ∧ w'.cell? ⟨w.heap.size + 1, 2, none⟩ = some (.slice q.B q.m q.d) ∧ RowKit.Below w2.heap.size w2 w')
      (first | (refine hS.out _ ?_; assumption) | go_keep)
      (first
        | (go_at_call 39; (with_reducible refine (T1.out _ (by (go_split_ands; assumption))).mono ?_); rintro e w3 ⟨⟨A3, c3, rfl, a1, a2, a3⟩, hb3, hs3⟩)
        | (go_at_call 39; (with_reducible refine (T2.out _ (by (go_split_ands; assumption))).mono ?_); rintro e w4 ⟨⟨A4, c4, rfl, b1, b2, b3⟩, hb4, hs4⟩)
        | (go_at_call 42; (with_reducible refine (order_at A3 A4 _ _ c3 c4 (valOf p.la * valOf q.lb) (valOf q.la * valOf p.lb) w2 _ (a3.below hb4) b3 (by (go_split_ands; assumption)) HL1.out HL2.out).mono ?_); rintro e w5 ⟨rfl, hb5, hs5⟩)
        | fail)
    have t0 := (HBP.out.below hs5 HBP.out.lt).cell 0
    have t1 := (HBQ.out.below hs5 HBQ.out.lt).cell 0
    simp at t0 t1
    have hu5 := hu2.trans (hs5.mono hu2.size)
    have hcb := cmp_bound (valOf p.la * valOf q.lb) (valOf q.la * valOf p.lb)
    have hv : qcmpN p.neg (valOf p.la) (valOf p.lb) q.neg (valOf q.la) (valOf q.lb) = if p.neg = true ∧ q.neg = false then -1 else if q.neg = true ∧ p.neg = false then 1 else if p.neg = true then -(cmpN (valOf p.la * valOf q.lb) (valOf q.la * valOf p.lb)) else cmpN (valOf p.la * valOf q.lb) (valOf q.la * valOf p.lb) := rfl
    rw [hv] at HR0
    clear hv
    generalize cmpN (valOf p.la * valOf q.lb) (valOf q.la * valOf p.lb) = z at *
    obtain ⟨hz1, hz2⟩ := hcb
    clear T1 T2 hS HL1 HL2 HBP HBQ hs3 hs4 hs5 hb3 hb4 hb5 a1 a2 a3 b1 b2 b3 q1 q2 q3 q4 q5 q5d
    try clear hHeld
    rcases hn1 : p.neg with _ | _ <;> rcases hn2 : q.neg with _ | _
    all_goals (
      rw [hn1] at t0 HR0
      rw [hn2] at t1 HR0
      clear hn1 hn2
      simp only [and_true, and_false, true_and, false_and, if_true, if_false, reduceCtorEq, Bool.true_eq_false, Bool.false_eq_true] at HR0
      go_wp2_with fail
      go_ret2
      exact ⟨by rw [HR0.out]; rfl, hu5⟩)
  · have HR0 : Sl _ := ⟨HR.out.trans (if_neg h0)⟩
    generalize checkQ (two p q) 2 = er at *
    have hne : (er == 0) = false := by rw [beq_eq_false_iff_ne]; exact h0
    clear hbp2 hbq2 h0 HR
    go_wp2_with fail
    go_ret2
    exact ⟨by rw [HR0.out]; rfl, hu2⟩
set_option maxHeartbeats 800000 in
set_option maxRecDepth 100000 in
theorem rQFloor_any (p : QV) (w : World) (hp : p.ok w) :
    Calls Tryz.prog 20 #[p.val] w fun e w' => QFloorRes p e w' ∧ Below w.heap.size w w' := by
  have HP : Sl _ := ⟨hp⟩
  clear hp
  have hres : ∀ e w', QFloorRes p e w' = (if checkQ (fun _ => p) 1 = 0 then FRes p.neg (limbs (floorN p.neg (valOf p.la) (valOf p.lb))) 0 e w' else FRes false [] (checkQ (fun _ => p) 1) e w') := fun e w' => rfl
  have HR : Sl _ := ⟨hres⟩
  clear hres
  unfold QV.val qv
  go_enter Tryz.func20, Tryz.ntmps20
  go_wp2_with fail
  have hu : Below w.heap.size w ((w.alloc (.cells #[.bool p.neg, .slice p.A p.n p.c, .slice p.B p.m p.d] 25)).alloc (.cells #[.bool p.neg, .slice p.A p.n p.c, .slice p.B p.m p.d] 25)) := ((Below.refl _ _).alloc (Nat.le_refl _) _).alloc (by simp) _
  have hqc := qcells_one (w.alloc (.cells #[.bool p.neg, .slice p.A p.n p.c, .slice p.B p.m p.d] 25)) p 25
  have hbl := (Blk.new w 25 #[.bool p.neg, .slice p.A p.n p.c, .slice p.B p.m p.d]).alloc (.cells #[.bool p.neg, .slice p.A p.n p.c, .slice p.B p.m p.d] 25)
  have e2 : (w.alloc (.cells #[.bool p.neg, .slice p.A p.n p.c, .slice p.B p.m p.d] 25)).heap.size = w.heap.size + 1 := by simp
  rw [e2] at hqc
  clear e2
  generalize ((w.alloc (.cells #[.bool p.neg, .slice p.A p.n p.c, .slice p.B p.m p.d] 25)).alloc (.cells #[.bool p.neg, .slice p.A p.n p.c, .slice p.B p.m p.d] 25)) = w1 at *
  have HP1 : Sl _ := ⟨HP.out.below hu⟩
  have HCK : Sl _ := ⟨rbadq_any (w.heap.size + 1) 1 1 (fun _ => p) w1 (by decide) hqc (fun _ _ => HP1.out)⟩
  clear hqc
  refine HCK.out.mono ?_; rintro e w2 ⟨rfl, hb2⟩
  have hu2 := hu.trans (hb2.mono hu.size)
  have hbl2 := hbl.below hb2 hbl.lt
  clear HCK hbl
  by_cases h0 : checkQ (fun _ => p) 1 = 0
  · have hpp := checkQ_zero h0 0 (by decide)
    have FP : Sl (p.Fine w2) := ⟨QV.fine (HP1.out.below hb2) hpp⟩
    have hR0 : ∀ e w', QFloorRes p e w' = FRes p.neg (limbs (floorN p.neg (valOf p.la) (valOf p.lb))) 0 e w' := fun e w' => by rw [HR.out, if_pos h0]
    have HR0 : Sl _ := ⟨hR0⟩
    rw [h0]
    clear hpp h0 hR0 HR
    have p0 := hbl2.cell 0
    have p1 := hbl2.cell 1
    have p2 := hbl2.cell 2
    simp at p0 p1 p2
    have hdv := divide_any p.A p.B p.n p.m p.c p.d (valOf p.la) (valOf p.lb) w2 FP.out.num.1 FP.out.den.1 (by have := FP.out.ln; omega) (by have := FP.out.ld; omega) FP.out.pos
    have hql : (limbs (valOf p.la / valOf p.lb)).length ≤ 512 := by
      have h1 := limbs_len_mono (Nat.div_le_self (valOf p.la) (valOf p.lb)); have h2 := FP.out.num.1.len; have h3 := FP.out.ln; omega
    have hfl : floorN p.neg (valOf p.la) (valOf p.lb) = if p.neg = true ∧ valOf p.la % valOf p.lb ≠ 0 then valOf p.la / valOf p.lb + 1 else valOf p.la / valOf p.lb := rfl
    have hrz : (limbs (valOf p.la % valOf p.lb)).length = 0 ↔ valOf p.la % valOf p.lb = 0 := by rw [List.length_eq_zero_iff, limbs_nil_iff]
    generalize floorN p.neg (valOf p.la) (valOf p.lb) = fl at *
    generalize valOf p.la / valOf p.lb = dq at *
    generalize valOf p.la % valOf p.lb = dr at *
    have HDV : Sl _ := ⟨hdv⟩
    have HFL : Sl _ := ⟨hfl⟩
    have HRZ : Sl _ := ⟨hrz⟩
    have hd : RowKit.Below w2.heap.size w2 w2.drew := below_drewN (Below.refl _ _) 1
    clear hdv hfl hrz
    go_wp2_with fail
    refine HDV.out.mono ?_; rintro e w3 ⟨⟨A3, c3, B3, d3, rfl, k1, k2⟩, hb3⟩
    have K1 : Sl _ := ⟨k1⟩
    have hb3' := hb3
    clear k1 k2
    all_goals (
      have hbl3 := hbl2.below hb3' hbl2.lt
      have y0 := hbl3.cell 0
      simp at y0
      have hB3 := hu2.trans (hb3'.mono hu2.size)
      have hqlz := HRZ.out
      rcases hng : p.neg with _ | _
      · rw [hng] at y0 HFL HR0
        have hf := HFL.out
        rw [if_neg (by simp)] at hf
        have HF2 : Sl _ := ⟨hf⟩
        clear hf hqlz hng
        go_wp2_with fail
        go_ret3
        rw [HR0.out, HF2.out]
        exact ⟨⟨A3, c3, rfl, K1.out⟩, hB3⟩
      · rw [hng] at y0 HFL HR0
        have HNG : Sl _ := ⟨hng⟩
        by_cases hz : dr = 0
        · have hf := HFL.out
          rw [if_neg (by simp [hz])] at hf
          have HF2 : Sl _ := ⟨hf⟩
          have hl0 := hqlz.2 hz
          clear hf hqlz hng hz
          go_wp2_with fail
          go_ret3
          rw [HR0.out, HF2.out]
          exact ⟨⟨A3, c3, rfl, K1.out⟩, hB3⟩
        · have hf := HFL.out
          rw [if_pos ⟨rfl, hz⟩] at hf
          have HF2 : Sl _ := ⟨hf⟩
          have hl0 : 0 < (limbs dr).length := by
            rcases Nat.eq_zero_or_pos (limbs dr).length with h | h
            · exact absurd (hqlz.1 h) hz
            · exact h
          clear hf hqlz hng hz
          go_wp2_with fail
          refine (rOf_any 1 _ (by decide)).mono ?_; rintro e w4 ⟨⟨A4, c4, rfl, k1, k2, k3⟩, hb4⟩
          have K3 : Sl _ := ⟨k3⟩
          clear k1 k2 k3
          have hB4 := hB3.trans (hb4.mono hB3.size)
          have hbl4 := hbl3.below hb4 hbl3.lt
          go_wp2_with fail
          refine (rplus_to A3 A4 _ _ c3 c4 dq 1 w4 w4 (K1.out.below hb4).1 K3.out (Below.refl _ _) (by omega) (by have : (limbs 1).length ≤ 1 := limbs_len_le (by decide); omega)).mono ?_; rintro e w5 ⟨⟨A5, c5, rfl, k1, k2, k3⟩, hb5, _⟩
          have hB5 := hB4.trans (hb5.mono hB4.size)
          have z0 := (hbl4.below hb5 hbl4.lt).cell 0
          simp at z0
          rw [HNG.out] at z0
          have K5 : Sl (Arg w5 A5 (limbs (dq + 1)).length c5 (limbs (dq + 1))) := ⟨⟨k3, k1, k2⟩⟩
          clear k1 k2 k3
          go_wp2_with fail
          go_ret3
          rw [HR0.out, HF2.out]
          exact ⟨⟨A5, c5, rfl, K5.out⟩, hB5⟩)
  · have hR0 : ∀ e w', QFloorRes p e w' = FRes false [] (checkQ (fun _ => p) 1) e w' := fun e w' => by rw [HR.out, if_neg h0]
    have HR0 : Sl _ := ⟨hR0⟩
    clear hR0
    generalize checkQ (fun _ => p) 1 = er at *
    have hne : (er == 0) = false := by rw [beq_eq_false_iff_ne]; exact h0
    clear hbl2 h0 HR
    go_wp2_with fail
    go_ret3
    rw [HR0.out]
    exact ⟨⟨none, 0, rfl, ⟨U_nil _ _, by simp, by decide⟩⟩, hu2⟩
end Go.Proofs.YtgjbaamhpapeeaaGreatDoor
