/- Package wide: QCmp. -/
import Derived.Test.YtgjbaamhpapeeaaGreatDoorWideV
namespace Go.Proofs.YtgjbaamhpapeeaaGreatDoor
open Go.RowKit
set_option linter.unusedVariables false
set_option linter.unusedSimpArgs false

/-- the order of two fractions -/
def qcmpN (na : Bool) (a b : Nat) (nb : Bool) (c d : Nat) : Int :=
  if na = true ∧ nb = false then -1 else if nb = true ∧ na = false then 1 else if na = true then -(cmpN (a * d) (c * b)) else cmpN (a * d) (c * b)
def QCmpS (p q : QV) : Int × Int := if checkQ (two p q) 2 = 0 then (qcmpN p.neg (valOf p.la) (valOf p.lb) q.neg (valOf q.la) (valOf q.lb), 0) else (0, checkQ (two p q) 2)
theorem cmp_bound (a b : Nat) : -1 ≤ cmpN a b ∧ cmpN a b ≤ 1 := by unfold cmpN; split <;> (try split) <;> decide
theorem cmp_at (A B : Option Addr) (n m c d a b : Nat) (w0 w : World) (ha : U w A n (limbs a)) (hb : U w B m (limbs b)) (hw : Below w0.heap.size w0 w) (hn : n ≤ 4294967296) (hm : m ≤ 4294967296) :
    Calls Tryz.prog 46 #[.slice A n c, .slice B m d] w fun e w' => e = .returned (.int .i64 (cmpN a b)) ∧ Below w.heap.size w w' ∧ Below w0.heap.size w0 w' :=
  (cmp_any A B n m c d a b w ha hb hn hm).mono fun e w' ⟨h1, q, h2⟩ => by
    subst h2
    exact ⟨h1, below_drewN (Below.refl _ _) q, below_drewN hw q⟩

set_option maxHeartbeats 1600000 in
set_option maxRecDepth 100000 in
theorem QCmp_any (p q : QV) (w : World) (hp : p.ok w) (hq : q.ok w) :
    Calls Tryz.prog 17 #[p.val, q.val] w fun e w' => e = .returned (.tuple #[.int .i64 (QCmpS p q).1, .int .i64 (QCmpS p q).2]) ∧ Below w.heap.size w w' := by
  have HP : Sl _ := ⟨hp⟩
  have HQ : Sl _ := ⟨hq⟩
  clear hp hq
  have hres : QCmpS p q = if checkQ (two p q) 2 = 0 then (qcmpN p.neg (valOf p.la) (valOf p.lb) q.neg (valOf q.la) (valOf q.lb), 0) else (0, checkQ (two p q) 2) := rfl
  have HR : Sl _ := ⟨hres⟩
  clear hres
  unfold QV.val qv
  go_enter Tryz.func17, Tryz.ntmps17
  go_wp2_with fail
  have hu : Below w.heap.size w (((w.alloc (.cells #[.bool p.neg, .slice p.A p.n p.c, .slice p.B p.m p.d] 25)).alloc (.cells #[.bool q.neg, .slice q.A q.n q.c, .slice q.B q.m q.d] 25)).alloc (.cells #[.bool p.neg, .slice p.A p.n p.c, .slice p.B p.m p.d, .bool q.neg, .slice q.A q.n q.c, .slice q.B q.m q.d] 25)) := (((Below.refl _ _).alloc (Nat.le_refl _) _).alloc (by simp) _).alloc (by simp; omega) _
  have hqc := qcells_two ((w.alloc (.cells #[.bool p.neg, .slice p.A p.n p.c, .slice p.B p.m p.d] 25)).alloc (.cells #[.bool q.neg, .slice q.A q.n q.c, .slice q.B q.m q.d] 25)) p q 25
  have hbp := ((Blk.new w 25 #[.bool p.neg, .slice p.A p.n p.c, .slice p.B p.m p.d]).alloc (.cells #[.bool q.neg, .slice q.A q.n q.c, .slice q.B q.m q.d] 25)).alloc (.cells #[.bool p.neg, .slice p.A p.n p.c, .slice p.B p.m p.d, .bool q.neg, .slice q.A q.n q.c, .slice q.B q.m q.d] 25)
  have hbq := (Blk.new (w.alloc (.cells #[.bool p.neg, .slice p.A p.n p.c, .slice p.B p.m p.d] 25)) 25 #[.bool q.neg, .slice q.A q.n q.c, .slice q.B q.m q.d]).alloc (.cells #[.bool p.neg, .slice p.A p.n p.c, .slice p.B p.m p.d, .bool q.neg, .slice q.A q.n q.c, .slice q.B q.m q.d] 25)
  have e1 : (w.alloc (.cells #[.bool p.neg, .slice p.A p.n p.c, .slice p.B p.m p.d] 25)).heap.size = w.heap.size + 1 := by simp
  have e2 : ((w.alloc (.cells #[.bool p.neg, .slice p.A p.n p.c, .slice p.B p.m p.d] 25)).alloc (.cells #[.bool q.neg, .slice q.A q.n q.c, .slice q.B q.m q.d] 25)).heap.size = w.heap.size + 1 + 1 := by simp
  rw [e1] at hbq
  rw [e2] at hqc
  clear e1 e2
  generalize (((w.alloc (.cells #[.bool p.neg, .slice p.A p.n p.c, .slice p.B p.m p.d] 25)).alloc (.cells #[.bool q.neg, .slice q.A q.n q.c, .slice q.B q.m q.d] 25)).alloc (.cells #[.bool p.neg, .slice p.A p.n p.c, .slice p.B p.m p.d, .bool q.neg, .slice q.A q.n q.c, .slice q.B q.m q.d] 25)) = w1 at *
  have HP1 : Sl _ := ⟨HP.out.below hu⟩
  have HQ1 : Sl _ := ⟨HQ.out.below hu⟩
  have HCK : Sl _ := ⟨checked_any (w.heap.size + 1 + 1) 2 2 (two p q) w1 (by decide) (by decide) hqc (two_ok HP1.out HQ1.out)⟩
  clear hqc
  refine HCK.out.mono ?_; rintro e w2 ⟨hqs, hb2⟩
  have hu2 := hu.trans (hb2.mono hu.size)
  have hbp2 := hbp.below hb2 hbp.lt
  have hbq2 := hbq.below hb2 hbq.lt
  clear HCK hbp hbq
  rcases hqs with ⟨h0, gg, cap, rfl, hqc⟩ | ⟨h0, rfl⟩
  · have hpp := checkQ_zero h0 0 (by decide)
    have hqq := checkQ_zero h0 1 (by decide)
    have FP : Sl (p.Fine w2) := ⟨QV.fine (HP1.out.below hb2) hpp⟩
    have FQ : Sl (q.Fine w2) := ⟨QV.fine (HQ1.out.below hb2) hqq⟩
    have HR0 : Sl _ := ⟨HR.out.trans (if_pos h0)⟩
    clear hpp hqq h0 HR
    have r0 := hbp2.cell 0
    have r1 := hbq2.cell 0
    simp at r0 r1
    have hcase : (p.neg = true ∧ q.neg = false) ∨ (p.neg = false ∧ q.neg = true) ∨ (p.neg = q.neg) := by cases p.neg <;> cases q.neg <;> simp
    rcases hcase with ⟨h1, h2⟩ | ⟨h1, h2⟩ | h1
    · have hv : qcmpN p.neg (valOf p.la) (valOf p.lb) q.neg (valOf q.la) (valOf q.lb) = -1 := by rw [qcmpN, if_pos ⟨h1, h2⟩]
      rw [hv] at HR0
      rw [h1] at r0
      rw [h2] at r1
      clear hqc hv
      go_wp2_with fail
      go_ret2
      exact ⟨by rw [HR0.out]; rfl, hu2⟩
    · have hv : qcmpN p.neg (valOf p.la) (valOf p.lb) q.neg (valOf q.la) (valOf q.lb) = 1 := by rw [qcmpN, if_neg (by simp [h1]), if_pos ⟨h2, h1⟩]
      rw [hv] at HR0
      rw [h1] at r0
      rw [h2] at r1
      clear hqc hv
      go_wp2_with fail
      go_ret2
      exact ⟨by rw [HR0.out]; rfl, hu2⟩
    · have T1 : Sl _ := ⟨times_at p.A q.B p.n q.m p.c q.d (valOf p.la) (valOf q.lb) w2 FP.out.num.1 FQ.out.den.1 (by have := FP.out.ln; omega) (by have := FQ.out.ld; omega)⟩
      have T2 : Sl _ := ⟨times_at q.A p.B q.n p.m q.c p.d (valOf q.la) (valOf p.lb) w2 FQ.out.num.1 FP.out.den.1 (by have := FQ.out.ln; omega) (by have := FP.out.ld; omega)⟩
      have hl1 : (limbs (valOf p.la * valOf q.lb)).length ≤ 4294967296 := by
        have k1 := limbs_len_mul (valOf p.la) (valOf q.lb); have k2 := FP.out.num.1.len; have k3 := FQ.out.den.1.len; have k4 := FP.out.ln; have k5 := FQ.out.ld; omega
      have hl2 : (limbs (valOf q.la * valOf p.lb)).length ≤ 4294967296 := by
        have k1 := limbs_len_mul (valOf q.la) (valOf p.lb); have k2 := FQ.out.num.1.len; have k3 := FP.out.den.1.len; have k4 := FQ.out.ln; have k5 := FP.out.ld; omega
      have HL1 : Sl _ := ⟨hl1⟩
      have HL2 : Sl _ := ⟨hl2⟩
      have hS : Sl (∀ w' : World, RowKit.Below w2.heap.size w2 w' → w'.cell? ⟨gg, 1, none⟩ = some (.slice p.A p.n p.c) ∧ w'.cell? ⟨gg, 5, none⟩ = some (.slice q.B q.m q.d) ∧ w'.cell? ⟨gg, 4, none⟩ = some (.slice q.A q.n q.c) ∧ w'.cell? ⟨gg, 2, none⟩ = some (.slice p.B p.m p.d) ∧ RowKit.Below w2.heap.size w2 w') := ⟨fun w' h => by
        obtain ⟨p0, p1, p2⟩ := (hqc.below h).cells (i := 0) (by decide)
        obtain ⟨p3, p4, p5⟩ := (hqc.below h).cells (i := 1) (by decide)
        exact ⟨p1, p5, p4, p2, h⟩⟩
      have hv : qcmpN p.neg (valOf p.la) (valOf p.lb) q.neg (valOf q.la) (valOf q.lb) = if p.neg = true then -(cmpN (valOf p.la * valOf q.lb) (valOf q.la * valOf p.lb)) else cmpN (valOf p.la * valOf q.lb) (valOf q.la * valOf p.lb) := by
        rw [qcmpN, ← h1]; cases p.neg <;> simp
      have HV : Sl _ := ⟨hv⟩
      have HBP : Sl _ := ⟨hbp2⟩
      clear hv hl1 hl2 hqc FP FQ HP1 HQ1 HP HQ hbq2 hbp2
      obtain ⟨q1, q2, q3, q4, q5⟩ := hS.out w2 (Below.refl _ _)
      have q5d : RowKit.Below w2.heap.size w2 w2.drew := below_drewN q5 1
      rw [← h1] at r1
      rcases hng : p.neg with _ | _
      all_goals (
        have HNG : Sl _ := ⟨hng⟩
        rw [hng] at r0 r1
        clear hng
        go_wp2_with fail
        go_region_held3 (fun w' => w'.cell? ⟨gg, 1, none⟩ = some (.slice p.A p.n p.c) ∧ w'.cell? ⟨gg, 5, none⟩ = some (.slice q.B q.m q.d) ∧ w'.cell? ⟨gg, 4, none⟩ = some (.slice q.A q.n q.c) ∧ w'.cell? ⟨gg, 2, none⟩ = some (.slice p.B p.m p.d) ∧ RowKit.Below w2.heap.size w2 w')
          (first | exact hS.out _ (by assumption) | go_keep)
          (first
            | (go_at_call 45; (with_reducible refine (T1.out _ (by (go_split_ands; assumption))).mono ?_); rintro e w3 ⟨⟨A3, c3, rfl, a1, a2, a3⟩, hb3, hs3⟩)
            | (go_at_call 45; (with_reducible refine (T2.out _ (by (go_split_ands; assumption))).mono ?_); rintro e w4 ⟨⟨A4, c4, rfl, b1, b2, b3⟩, hb4, hs4⟩)
            | (go_at_call 46; (with_reducible refine (cmp_at A3 A4 _ _ c3 c4 (valOf p.la * valOf q.lb) (valOf q.la * valOf p.lb) w2 _ (a3.below hb4) b3 (by (go_split_ands; assumption)) HL1.out HL2.out).mono ?_); rintro e w5 ⟨rfl, hb5, hs5⟩))
        have t0 := (HBP.out.below hs5 HBP.out.lt).cell 0
        simp [HNG.out] at t0
        have hcb := cmp_bound (valOf p.la * valOf q.lb) (valOf q.la * valOf p.lb)
        have hu5 := hu2.trans (hs5.mono hu2.size)
        have HVV : Sl (QCmpS p q = (if p.neg = true then -(cmpN (valOf p.la * valOf q.lb) (valOf q.la * valOf p.lb)) else cmpN (valOf p.la * valOf q.lb) (valOf q.la * valOf p.lb), 0)) := ⟨by rw [HR0.out, HV.out]⟩
        rw [HNG.out] at HVV
        generalize cmpN (valOf p.la * valOf q.lb) (valOf q.la * valOf p.lb) = z at *
        obtain ⟨hz1, hz2⟩ := hcb
        clear T1 T2 hS HR0 HV HL1 HL2
        go_wp2_with fail
        go_ret2
        exact ⟨by rw [HVV.out]; rfl, hu5⟩)
  · have HR0 : Sl _ := ⟨HR.out.trans (if_neg h0)⟩
    generalize checkQ (two p q) 2 = er at *
    have hne : (er == 0) = false := by rw [beq_eq_false_iff_ne]; exact h0
    clear hbp2 hbq2 h0 HR
    go_wp2_with fail
    go_ret2
    exact ⟨by rw [HR0.out]; rfl, hu2⟩
end Go.Proofs.YtgjbaamhpapeeaaGreatDoor
