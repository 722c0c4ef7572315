/- Fractions: the reference's QMul, QDiv. -/
import Derived.Test.YtgjbaamhpapeeaaGreatDoorQuoA
import Derived.Test.YtgjbaamhpapeeaaGreatDoorQuoF
namespace Go.Proofs.YtgjbaamhpapeeaaGreatDoor
set_option linter.unusedSimpArgs false
open Go.RowKit
set_option linter.unusedVariables false

theorem rtimes_at (A B : Option Addr) (n m c d a b : Nat) (w0 : World) (ha : U w0 A n (limbs a)) (hb : U w0 B m (limbs b)) (hn : n ≤ 1000000) (hm : m ≤ 1000000) :
    ∀ w : World, Below w0.heap.size w0 w → Calls Tryz.prog 39 #[.slice A n c, .slice B m d] w fun e w' => Limbs (limbs (a * b)) e w' ∧ Below w.heap.size w w' ∧ Below w0.heap.size w0 w' := fun w h =>
  (rtimes_any A B n m c d (limbs a) (limbs b) w (ha.below h) (hb.below h) hn hm).mono fun e w' ⟨h1, h2⟩ => ⟨by rw [valOf_limbs, valOf_limbs] at h1; exact h1, h2, h.trans (h2.mono h.size)⟩

set_option maxHeartbeats 800000 in
set_option maxRecDepth 100000 in
theorem rQMul_any (p q : QV) (w : World) (hp : p.ok w) (hq : q.ok w) :
    Calls Tryz.prog 14 #[p.val, q.val] w fun e w' => QMulRes p q e w' ∧ Below w.heap.size w w' := by
  have HP : Sl _ := ⟨hp⟩
  have HQ : Sl _ := ⟨hq⟩
  clear hp hq
  have hres : ∀ e w', QMulRes p q e w' = (if checkQ (two p q) 2 = 0 then LowRes (!(p.neg == q.neg)) (valOf p.la * valOf q.la) (valOf p.lb * valOf q.lb) e w' else QRes false [] [] (checkQ (two p q) 2) e w') := fun e w' => rfl
  have HR : Sl _ := ⟨hres⟩
  clear hres
  unfold QV.val qv
  go_enter Tryz.func14, Tryz.ntmps14
  go_wp2_with fail
  have hu : Below w.heap.size w ((((w.alloc (.cells #[.bool p.neg, .slice p.A p.n p.c, .slice p.B p.m p.d] 25)).alloc (.cells #[.bool q.neg, .slice q.A q.n q.c, .slice q.B q.m q.d] 25)).alloc (.cells #[.bool false, .slice none 0 0, .slice none 0 0] 25)).alloc (.cells #[.bool p.neg, .slice p.A p.n p.c, .slice p.B p.m p.d, .bool q.neg, .slice q.A q.n q.c, .slice q.B q.m q.d] 25)) := ((((Below.refl _ _).alloc (Nat.le_refl _) _).alloc (by simp) _).alloc (by simp; omega) _).alloc (by simp; omega) _
  have hqc := qcells_two (((w.alloc (.cells #[.bool p.neg, .slice p.A p.n p.c, .slice p.B p.m p.d] 25)).alloc (.cells #[.bool q.neg, .slice q.A q.n q.c, .slice q.B q.m q.d] 25)).alloc (.cells #[.bool false, .slice none 0 0, .slice none 0 0] 25)) p q 25
  have hbl := (Blk.new ((w.alloc (.cells #[.bool p.neg, .slice p.A p.n p.c, .slice p.B p.m p.d] 25)).alloc (.cells #[.bool q.neg, .slice q.A q.n q.c, .slice q.B q.m q.d] 25)) 25 #[.bool false, .slice none 0 0, .slice none 0 0]).alloc (.cells #[.bool p.neg, .slice p.A p.n p.c, .slice p.B p.m p.d, .bool q.neg, .slice q.A q.n q.c, .slice q.B q.m q.d] 25)
  have hbp := (((Blk.new w 25 #[.bool p.neg, .slice p.A p.n p.c, .slice p.B p.m p.d]).alloc (.cells #[.bool q.neg, .slice q.A q.n q.c, .slice q.B q.m q.d] 25)).alloc (.cells #[.bool false, .slice none 0 0, .slice none 0 0] 25)).alloc (.cells #[.bool p.neg, .slice p.A p.n p.c, .slice p.B p.m p.d, .bool q.neg, .slice q.A q.n q.c, .slice q.B q.m q.d] 25)
  have hbq := ((Blk.new (w.alloc (.cells #[.bool p.neg, .slice p.A p.n p.c, .slice p.B p.m p.d] 25)) 25 #[.bool q.neg, .slice q.A q.n q.c, .slice q.B q.m q.d]).alloc (.cells #[.bool false, .slice none 0 0, .slice none 0 0] 25)).alloc (.cells #[.bool p.neg, .slice p.A p.n p.c, .slice p.B p.m p.d, .bool q.neg, .slice q.A q.n q.c, .slice q.B q.m q.d] 25)
  have e1 : (w.alloc (.cells #[.bool p.neg, .slice p.A p.n p.c, .slice p.B p.m p.d] 25)).heap.size = w.heap.size + 1 := by simp
  rw [e1] at hbq
  clear e1
  have hsz : ((((w.alloc (.cells #[.bool p.neg, .slice p.A p.n p.c, .slice p.B p.m p.d] 25)).alloc (.cells #[.bool q.neg, .slice q.A q.n q.c, .slice q.B q.m q.d] 25)).alloc (.cells #[.bool false, .slice none 0 0, .slice none 0 0] 25)).alloc (.cells #[.bool p.neg, .slice p.A p.n p.c, .slice p.B p.m p.d, .bool q.neg, .slice q.A q.n q.c, .slice q.B q.m q.d] 25)).heap.size = w.heap.size + 1 + 1 + 1 + 1 := by simp
  have e2 : ((w.alloc (.cells #[.bool p.neg, .slice p.A p.n p.c, .slice p.B p.m p.d] 25)).alloc (.cells #[.bool q.neg, .slice q.A q.n q.c, .slice q.B q.m q.d] 25)).heap.size = w.heap.size + 1 + 1 := by simp
  have e3 : (((w.alloc (.cells #[.bool p.neg, .slice p.A p.n p.c, .slice p.B p.m p.d] 25)).alloc (.cells #[.bool q.neg, .slice q.A q.n q.c, .slice q.B q.m q.d] 25)).alloc (.cells #[.bool false, .slice none 0 0, .slice none 0 0] 25)).heap.size = w.heap.size + 1 + 1 + 1 := by simp
  rw [e2] at hbl
  rw [e3] at hqc
  clear e2 e3
  generalize ((((w.alloc (.cells #[.bool p.neg, .slice p.A p.n p.c, .slice p.B p.m p.d] 25)).alloc (.cells #[.bool q.neg, .slice q.A q.n q.c, .slice q.B q.m q.d] 25)).alloc (.cells #[.bool false, .slice none 0 0, .slice none 0 0] 25)).alloc (.cells #[.bool p.neg, .slice p.A p.n p.c, .slice p.B p.m p.d, .bool q.neg, .slice q.A q.n q.c, .slice q.B q.m q.d] 25)) = w1 at *
  have HP1 : Sl _ := ⟨HP.out.below hu⟩
  have HQ1 : Sl _ := ⟨HQ.out.below hu⟩
  have HCK : Sl _ := ⟨rbadq_any (w.heap.size + 1 + 1 + 1) 2 2 (two p q) w1 (by decide) hqc (two_ok HP1.out HQ1.out)⟩
  clear hqc
  refine HCK.out.mono ?_; rintro e w2 ⟨rfl, hb2⟩
  have hu2 := hu.trans (hb2.mono hu.size)
  have hbl2 := hbl.below hb2 hbl.lt
  clear HCK hbl
  by_cases h0 : checkQ (two p q) 2 = 0
  · have hpp := checkQ_zero h0 0 (by decide)
    have hqq := checkQ_zero h0 1 (by decide)
    have hz : w1.heap.size = w.heap.size + 1 + 1 + 1 + 1 := hsz
    have HH0 : Sl _ := ⟨h0⟩
    rw [h0]
    have FP : Sl (p.Fine w2) := ⟨QV.fine (HP1.out.below hb2) hpp⟩
    have FQ : Sl (q.Fine w2) := ⟨QV.fine (HQ1.out.below hb2) hqq⟩
    have hbp2 := hbp.below hb2 hbp.lt
    have hbq2 := hbq.below hb2 hbq.lt
    clear hpp hqq h0 hbp hbq
    have T1 : Sl _ := ⟨rtimes_at p.A q.A p.n q.n p.c q.c (valOf p.la) (valOf q.la) w2 FP.out.num.1 FQ.out.num.1 (by have := FP.out.ln; omega) (by have := FQ.out.ln; omega)⟩
    have T2 : Sl _ := ⟨rtimes_at p.B q.B p.m q.m p.d q.d (valOf p.lb) (valOf q.lb) w2 FP.out.den.1 FQ.out.den.1 (by have := FP.out.ld; omega) (by have := FQ.out.ld; omega)⟩
    have hl1 : (limbs (valOf p.la * valOf q.la)).length ≤ 16384 := by
      have k1 := limbs_len_mul (valOf p.la) (valOf q.la); have k2 := FP.out.num.1.len; have k3 := FQ.out.num.1.len; have k4 := FP.out.ln; have k5 := FQ.out.ln; omega
    have hl2 : (limbs (valOf p.lb * valOf q.lb)).length ≤ 16384 := by
      have k1 := limbs_len_mul (valOf p.lb) (valOf q.lb); have k2 := FP.out.den.1.len; have k3 := FQ.out.den.1.len; have k4 := FP.out.ld; have k5 := FQ.out.ld; omega
    have hsp : valOf p.lb * valOf q.lb ≠ 0 := Nat.mul_ne_zero FP.out.pos FQ.out.pos
    have hR0 : ∀ e w', QMulRes p q e w' = LowRes (!(p.neg == q.neg)) (valOf p.la * valOf q.la) (valOf p.lb * valOf q.lb) e w' := fun e w' => by rw [HR.out, if_pos HH0.out]
    have hS : Sl (∀ w' : World, RowKit.Below w2.heap.size w2 w' → w'.cell? ⟨w.heap.size, 0, none⟩ = some (.bool p.neg) ∧ w'.cell? ⟨w.heap.size + 1, 0, none⟩ = some (.bool q.neg) ∧ w'.cell? ⟨w.heap.size, 1, none⟩ = some (.slice p.A p.n p.c) ∧ w'.cell? ⟨w.heap.size + 1, 1, none⟩ = some (.slice q.A q.n q.c) ∧ w'.cell? ⟨w.heap.size, 2, none⟩ = some (.slice p.B p.m p.d) ∧ w'.cell? ⟨w.heap.size + 1, 2, none⟩ = some (.slice q.B q.m q.d)) := ⟨fun w' h => by
      have e1 := hbp2.below h hbp2.lt
      have e2 := hbq2.below h hbq2.lt
      exact ⟨e1.cell 0, e2.cell 0, e1.cell 1, e2.cell 1, e1.cell 2, e2.cell 2⟩⟩
    have hST : Sl (∀ (w' : World) (y0 y1 y2 : Value), RowKit.Below w2.heap.size w2 w' → (fun w' : World => w'.cell? ⟨w.heap.size, 0, none⟩ = some (.bool p.neg) ∧ w'.cell? ⟨w.heap.size + 1, 0, none⟩ = some (.bool q.neg) ∧ w'.cell? ⟨w.heap.size, 1, none⟩ = some (.slice p.A p.n p.c) ∧ w'.cell? ⟨w.heap.size + 1, 1, none⟩ = some (.slice q.A q.n q.c) ∧ w'.cell? ⟨w.heap.size, 2, none⟩ = some (.slice p.B p.m p.d) ∧ w'.cell? ⟨w.heap.size + 1, 2, none⟩ = some (.slice q.B q.m q.d)) (((w'.setCell ⟨w.heap.size + 1 + 1, 0, none⟩ y0).setCell ⟨w.heap.size + 1 + 1, 1, none⟩ y1).setCell ⟨w.heap.size + 1 + 1, 2, none⟩ y2)) := ⟨fun w' y0 y1 y2 h => by
      have b0 := hbp2.below h hbp2.lt
      have b1 := hbq2.below h hbq2.lt
      have n0 : w.heap.size ≠ w.heap.size + 1 + 1 := by omega
      have n1 : w.heap.size + 1 ≠ w.heap.size + 1 + 1 := by omega
      have c0 := ((b0.far (p := ⟨w.heap.size + 1 + 1, 0, none⟩) n0 y0).far (p := ⟨w.heap.size + 1 + 1, 1, none⟩) n0 y1).far (p := ⟨w.heap.size + 1 + 1, 2, none⟩) n0 y2
      have c1 := ((b1.far (p := ⟨w.heap.size + 1 + 1, 0, none⟩) n1 y0).far (p := ⟨w.heap.size + 1 + 1, 1, none⟩) n1 y1).far (p := ⟨w.heap.size + 1 + 1, 2, none⟩) n1 y2
      exact ⟨(c0.cell 0).trans rfl, (c1.cell 0).trans rfl, (c0.cell 1).trans rfl, (c1.cell 1).trans rfl, (c0.cell 2).trans rfl, (c1.cell 2).trans rfl⟩⟩
    generalize valOf p.la * valOf q.la = sa at *
    generalize valOf p.lb * valOf q.lb = sb at *
    have hlow := fun (A B : Option Addr) (c d : Nat) (w : World) (h1 : Arg w A (limbs sa).length c (limbs sa)) (h2 : Arg w B (limbs sb).length d (limbs sb)) => rlowest_any (!(p.neg == q.neg)) A B _ _ c d sa sb w h1 h2 (by omega) (by omega) hsp
    unfold LowRes QRes qv at hlow
    have hLR : ∀ e w', LowRes (!(p.neg == q.neg)) sa sb e w' = QRes (lowS (!(p.neg == q.neg)) sa sb).1 (lowS (!(p.neg == q.neg)) sa sb).2.1 (lowS (!(p.neg == q.neg)) sa sb).2.2.1 (lowS (!(p.neg == q.neg)) sa sb).2.2.2 e w' := fun _ _ => rfl
    generalize (lowS (!(p.neg == q.neg)) sa sb).1 = rg at *
    generalize (lowS (!(p.neg == q.neg)) sa sb).2.1 = rn at *
    generalize (lowS (!(p.neg == q.neg)) sa sb).2.2.1 = rd at *
    generalize (lowS (!(p.neg == q.neg)) sa sb).2.2.2 = re at *
    have HB2 : Sl (∀ w' : World, RowKit.Below w2.heap.size w2 w' → (w'.cell? ⟨w.heap.size + 1 + 1, 0, none⟩ = some (.bool false) ∧ w'.cell? ⟨w.heap.size + 1 + 1, 1, none⟩ = some (.slice none 0 0) ∧ w'.cell? ⟨w.heap.size + 1 + 1, 2, none⟩ = some (.slice none 0 0)) ∧
      (w'.frozen? ⟨w.heap.size + 1 + 1, 0, none⟩ = false ∧ w'.frozen? ⟨w.heap.size + 1 + 1, 1, none⟩ = false ∧ w'.frozen? ⟨w.heap.size + 1 + 1, 2, none⟩ = false) ∧ Blk w' (w.heap.size + 1 + 1) 25 #[.bool false, .slice none 0 0, .slice none 0 0]) := ⟨fun w' h => by
      have e := hbl2.below h hbl2.lt
      exact ⟨⟨by rw [e.cell]; rfl, by rw [e.cell]; rfl, by rw [e.cell]; rfl⟩, ⟨e.frozen _, e.frozen _, e.frozen _⟩, e⟩⟩
    have HLOW : Sl _ := ⟨hlow⟩
    have HR0 : Sl _ := ⟨hR0⟩
    have HLR : Sl _ := ⟨hLR⟩
    clear hlow hR0 hLR hl1 hl2 hsp hbl2 hbp2 hbq2
    obtain ⟨s0, s1, s2, s3, s4, s5⟩ := hS.out w2 (Below.refl _ _)
    have hd : RowKit.Below w2.heap.size w2 w2.drew := below_drewN (Below.refl _ _) 1
    go_wp2_with fail
    go_region_held3 (fun w' => w'.cell? ⟨w.heap.size, 0, none⟩ = some (.bool p.neg) ∧ w'.cell? ⟨w.heap.size + 1, 0, none⟩ = some (.bool q.neg) ∧ w'.cell? ⟨w.heap.size, 1, none⟩ = some (.slice p.A p.n p.c) ∧ w'.cell? ⟨w.heap.size + 1, 1, none⟩ = some (.slice q.A q.n q.c) ∧ w'.cell? ⟨w.heap.size, 2, none⟩ = some (.slice p.B p.m p.d) ∧ w'.cell? ⟨w.heap.size + 1, 2, none⟩ = some (.slice q.B q.m q.d))
      (first | (refine hS.out _ ?_; assumption) | (refine hST.out _ _ _ _ ?_; assumption) | go_keep)
      (first
        | (go_at_call 39; (with_reducible refine (T1.out _ (by (go_split_ands; assumption))).mono ?_); rintro e w3 ⟨⟨A3, c3, rfl, a1, a2, a3⟩, hb3, hs3⟩)
        | (go_at_call 39; (with_reducible refine (T2.out _ (by (go_split_ands; assumption))).mono ?_); rintro e w4 ⟨⟨A4, c4, rfl, b1, b2, b3⟩, hb4, hs4⟩)
        | (go_at_call 40; have hh := HLOW.out _ _ _ _ _ ⟨a3.below hb4, a1, a2⟩ ⟨b3, b1, b2⟩; (with_reducible refine hh.mono ?_); rintro e w5 ⟨⟨A5, c5, B5, d5, rfl, k1, k2⟩, hb5⟩; have K3 : Sl _ := ⟨k1⟩; have K4 : Sl _ := ⟨k2⟩; have hb5' := hs4.trans (hb5.mono hs4.size); obtain ⟨⟨r0, r1, r2⟩, ⟨f0, f1, f2⟩, r8⟩ := HB2.out w5 hb5'; have HR8 : Sl _ := ⟨r8⟩; clear r8 k1 k2)
        | fail)
    all_goals (
      go_wp2_with fail
      refine bodyPost_ret (results_row2 rfl _ _ (w.heap.size + 1 + 1) _ _ _ rfl (HR8.out.three _ _ _) Tryz.underlying25 rfl (by kernel_rfl)) rfl ?_
      rw [HR0.out, HLR.out]
      exact ⟨⟨A5, c5, B5, d5, rfl, K3.out.three HR8.out ni1 ni2 ni2 _ _ _, K4.out.three HR8.out ni1 ni2 ni2 _ _ _⟩, below_three (hu2.trans (hb5'.mono hu2.size)) (by omega) _ _ _⟩)
  · have hR0 : ∀ e w', QMulRes p q e w' = QRes false [] [] (checkQ (two p q) 2) e w' := fun e w' => by rw [HR.out, if_neg h0]
    have HR0 : Sl _ := ⟨hR0⟩
    clear hR0
    generalize checkQ (two p q) 2 = er at *
    have hne : (er == 0) = false := by rw [beq_eq_false_iff_ne]; exact h0
    have r0 := hbl2.cell 0
    have r1 := hbl2.cell 1
    have r2 := hbl2.cell 2
    have f0 := hbl2.frozen 0
    have f1 := hbl2.frozen 1
    have f2 := hbl2.frozen 2
    simp at r0 r1 r2
    have HBL : Sl _ := ⟨hbl2⟩
    clear hbl2 h0 HR
    go_wp2_with fail
    refine bodyPost_ret (results_row2 rfl _ _ (w.heap.size + 1 + 1) _ _ _ rfl (HBL.out.three _ _ _) Tryz.underlying25 rfl (by kernel_rfl)) rfl ?_
    rw [HR0.out]
    exact ⟨q_none _ _, below_three hu2 (by omega) _ _ _⟩
set_option maxHeartbeats 800000 in
set_option maxRecDepth 100000 in
theorem rQDiv_any (p q : QV) (w : World) (hp : p.ok w) (hq : q.ok w) :
    Calls Tryz.prog 16 #[p.val, q.val] w fun e w' => QDivRes p q e w' ∧ Below w.heap.size w w' := by
  have HP : Sl _ := ⟨hp⟩
  have HQ : Sl _ := ⟨hq⟩
  clear hp hq
  have hres : ∀ e w', QDivRes p q e w' = (if checkQ (two p q) 2 = 0 then (if valOf q.la = 0 then QRes false [] [] 4 e w' else LowRes (!(p.neg == q.neg)) (valOf p.la * valOf q.lb) (valOf p.lb * valOf q.la) e w') else QRes false [] [] (checkQ (two p q) 2) e w') := fun e w' => rfl
  have HR : Sl _ := ⟨hres⟩
  clear hres
  unfold QV.val qv
  go_enter Tryz.func16, Tryz.ntmps16
  go_wp2_with fail
  have hu : Below w.heap.size w ((((w.alloc (.cells #[.bool p.neg, .slice p.A p.n p.c, .slice p.B p.m p.d] 25)).alloc (.cells #[.bool q.neg, .slice q.A q.n q.c, .slice q.B q.m q.d] 25)).alloc (.cells #[.bool false, .slice none 0 0, .slice none 0 0] 25)).alloc (.cells #[.bool p.neg, .slice p.A p.n p.c, .slice p.B p.m p.d, .bool q.neg, .slice q.A q.n q.c, .slice q.B q.m q.d] 25)) := ((((Below.refl _ _).alloc (Nat.le_refl _) _).alloc (by simp) _).alloc (by simp; omega) _).alloc (by simp; omega) _
  have hqc := qcells_two (((w.alloc (.cells #[.bool p.neg, .slice p.A p.n p.c, .slice p.B p.m p.d] 25)).alloc (.cells #[.bool q.neg, .slice q.A q.n q.c, .slice q.B q.m q.d] 25)).alloc (.cells #[.bool false, .slice none 0 0, .slice none 0 0] 25)) p q 25
  have hbl := (Blk.new ((w.alloc (.cells #[.bool p.neg, .slice p.A p.n p.c, .slice p.B p.m p.d] 25)).alloc (.cells #[.bool q.neg, .slice q.A q.n q.c, .slice q.B q.m q.d] 25)) 25 #[.bool false, .slice none 0 0, .slice none 0 0]).alloc (.cells #[.bool p.neg, .slice p.A p.n p.c, .slice p.B p.m p.d, .bool q.neg, .slice q.A q.n q.c, .slice q.B q.m q.d] 25)
  have hbp := (((Blk.new w 25 #[.bool p.neg, .slice p.A p.n p.c, .slice p.B p.m p.d]).alloc (.cells #[.bool q.neg, .slice q.A q.n q.c, .slice q.B q.m q.d] 25)).alloc (.cells #[.bool false, .slice none 0 0, .slice none 0 0] 25)).alloc (.cells #[.bool p.neg, .slice p.A p.n p.c, .slice p.B p.m p.d, .bool q.neg, .slice q.A q.n q.c, .slice q.B q.m q.d] 25)
  have hbq := ((Blk.new (w.alloc (.cells #[.bool p.neg, .slice p.A p.n p.c, .slice p.B p.m p.d] 25)) 25 #[.bool q.neg, .slice q.A q.n q.c, .slice q.B q.m q.d]).alloc (.cells #[.bool false, .slice none 0 0, .slice none 0 0] 25)).alloc (.cells #[.bool p.neg, .slice p.A p.n p.c, .slice p.B p.m p.d, .bool q.neg, .slice q.A q.n q.c, .slice q.B q.m q.d] 25)
  have e1 : (w.alloc (.cells #[.bool p.neg, .slice p.A p.n p.c, .slice p.B p.m p.d] 25)).heap.size = w.heap.size + 1 := by simp
  rw [e1] at hbq
  clear e1
  have hsz : ((((w.alloc (.cells #[.bool p.neg, .slice p.A p.n p.c, .slice p.B p.m p.d] 25)).alloc (.cells #[.bool q.neg, .slice q.A q.n q.c, .slice q.B q.m q.d] 25)).alloc (.cells #[.bool false, .slice none 0 0, .slice none 0 0] 25)).alloc (.cells #[.bool p.neg, .slice p.A p.n p.c, .slice p.B p.m p.d, .bool q.neg, .slice q.A q.n q.c, .slice q.B q.m q.d] 25)).heap.size = w.heap.size + 1 + 1 + 1 + 1 := by simp
  have e2 : ((w.alloc (.cells #[.bool p.neg, .slice p.A p.n p.c, .slice p.B p.m p.d] 25)).alloc (.cells #[.bool q.neg, .slice q.A q.n q.c, .slice q.B q.m q.d] 25)).heap.size = w.heap.size + 1 + 1 := by simp
  have e3 : (((w.alloc (.cells #[.bool p.neg, .slice p.A p.n p.c, .slice p.B p.m p.d] 25)).alloc (.cells #[.bool q.neg, .slice q.A q.n q.c, .slice q.B q.m q.d] 25)).alloc (.cells #[.bool false, .slice none 0 0, .slice none 0 0] 25)).heap.size = w.heap.size + 1 + 1 + 1 := by simp
  rw [e2] at hbl
  rw [e3] at hqc
  clear e2 e3
  generalize ((((w.alloc (.cells #[.bool p.neg, .slice p.A p.n p.c, .slice p.B p.m p.d] 25)).alloc (.cells #[.bool q.neg, .slice q.A q.n q.c, .slice q.B q.m q.d] 25)).alloc (.cells #[.bool false, .slice none 0 0, .slice none 0 0] 25)).alloc (.cells #[.bool p.neg, .slice p.A p.n p.c, .slice p.B p.m p.d, .bool q.neg, .slice q.A q.n q.c, .slice q.B q.m q.d] 25)) = w1 at *
  have HP1 : Sl _ := ⟨HP.out.below hu⟩
  have HQ1 : Sl _ := ⟨HQ.out.below hu⟩
  have HCK : Sl _ := ⟨rbadq_any (w.heap.size + 1 + 1 + 1) 2 2 (two p q) w1 (by decide) hqc (two_ok HP1.out HQ1.out)⟩
  clear hqc
  refine HCK.out.mono ?_; rintro e w2 ⟨rfl, hb2⟩
  have hu2 := hu.trans (hb2.mono hu.size)
  have hbl2 := hbl.below hb2 hbl.lt
  clear HCK hbl
  by_cases h0 : checkQ (two p q) 2 = 0
  · have hpp := checkQ_zero h0 0 (by decide)
    have hqq := checkQ_zero h0 1 (by decide)
    have hz : w1.heap.size = w.heap.size + 1 + 1 + 1 + 1 := hsz
    have HH0 : Sl _ := ⟨h0⟩
    rw [h0]
    have FP : Sl (p.Fine w2) := ⟨QV.fine (HP1.out.below hb2) hpp⟩
    have FQ : Sl (q.Fine w2) := ⟨QV.fine (HQ1.out.below hb2) hqq⟩
    have hbp2 := hbp.below hb2 hbp.lt
    have hbq2 := hbq.below hb2 hbq.lt
    clear hpp hqq h0 hbp hbq
    by_cases hc0 : valOf q.la = 0
    · have hR0 : ∀ e w', QDivRes p q e w' = QRes false [] [] 4 e w' := fun e w' => by rw [HR.out, if_pos HH0.out, if_pos hc0]
      have HR0 : Sl _ := ⟨hR0⟩
      have hqn0 : q.n = 0 := by
        have := FQ.out.num.1.len
        rw [hc0, limbs_zero] at this
        exact this.symm
      have t1 := hbq2.cell 1
      rw [hqn0] at t1
      have r0 := hbl2.cell 0
      have r1 := hbl2.cell 1
      have r2 := hbl2.cell 2
      have f0 := hbl2.frozen 0
      have f1 := hbl2.frozen 1
      have f2 := hbl2.frozen 2
      simp at r0 r1 r2 t1
      have HBL : Sl _ := ⟨hbl2⟩
      clear hbl2 hR0 HR hbp2 hbq2
      go_wp2_with fail
      refine bodyPost_ret (results_row2 rfl _ _ (w.heap.size + 1 + 1) _ _ _ rfl (HBL.out.three _ _ _) Tryz.underlying25 rfl (by kernel_rfl)) rfl ?_
      rw [HR0.out]
      exact ⟨q_none _ _, below_three hu2 (by omega) _ _ _⟩
    · have T1 : Sl _ := ⟨rtimes_at p.A q.B p.n q.m p.c q.d (valOf p.la) (valOf q.lb) w2 FP.out.num.1 FQ.out.den.1 (by have := FP.out.ln; omega) (by have := FQ.out.ld; omega)⟩
      have T2 : Sl _ := ⟨rtimes_at p.B q.A p.m q.n p.d q.c (valOf p.lb) (valOf q.la) w2 FP.out.den.1 FQ.out.num.1 (by have := FP.out.ld; omega) (by have := FQ.out.ln; omega)⟩
      have hl1 : (limbs (valOf p.la * valOf q.lb)).length ≤ 16384 := by
        have k1 := limbs_len_mul (valOf p.la) (valOf q.lb); have k2 := FP.out.num.1.len; have k3 := FQ.out.den.1.len; have k4 := FP.out.ln; have k5 := FQ.out.ld; omega
      have hl2 : (limbs (valOf p.lb * valOf q.la)).length ≤ 16384 := by
        have k1 := limbs_len_mul (valOf p.lb) (valOf q.la); have k2 := FP.out.den.1.len; have k3 := FQ.out.num.1.len; have k4 := FP.out.ld; have k5 := FQ.out.ln; omega
      have hsp : valOf p.lb * valOf q.la ≠ 0 := Nat.mul_ne_zero FP.out.pos hc0
      have hR0 : ∀ e w', QDivRes p q e w' = LowRes (!(p.neg == q.neg)) (valOf p.la * valOf q.lb) (valOf p.lb * valOf q.la) e w' := fun e w' => by rw [HR.out, if_pos HH0.out, if_neg hc0]
      have hS : Sl (∀ w' : World, RowKit.Below w2.heap.size w2 w' → w'.cell? ⟨w.heap.size, 0, none⟩ = some (.bool p.neg) ∧ w'.cell? ⟨w.heap.size + 1, 0, none⟩ = some (.bool q.neg) ∧ w'.cell? ⟨w.heap.size, 1, none⟩ = some (.slice p.A p.n p.c) ∧ w'.cell? ⟨w.heap.size + 1, 1, none⟩ = some (.slice q.A q.n q.c) ∧ w'.cell? ⟨w.heap.size, 2, none⟩ = some (.slice p.B p.m p.d) ∧ w'.cell? ⟨w.heap.size + 1, 2, none⟩ = some (.slice q.B q.m q.d)) := ⟨fun w' h => by
        have e1 := hbp2.below h hbp2.lt
        have e2 := hbq2.below h hbq2.lt
        exact ⟨e1.cell 0, e2.cell 0, e1.cell 1, e2.cell 1, e1.cell 2, e2.cell 2⟩⟩
      have hST : Sl (∀ (w' : World) (y0 y1 y2 : Value), RowKit.Below w2.heap.size w2 w' → (fun w' : World => w'.cell? ⟨w.heap.size, 0, none⟩ = some (.bool p.neg) ∧ w'.cell? ⟨w.heap.size + 1, 0, none⟩ = some (.bool q.neg) ∧ w'.cell? ⟨w.heap.size, 1, none⟩ = some (.slice p.A p.n p.c) ∧ w'.cell? ⟨w.heap.size + 1, 1, none⟩ = some (.slice q.A q.n q.c) ∧ w'.cell? ⟨w.heap.size, 2, none⟩ = some (.slice p.B p.m p.d) ∧ w'.cell? ⟨w.heap.size + 1, 2, none⟩ = some (.slice q.B q.m q.d)) (((w'.setCell ⟨w.heap.size + 1 + 1, 0, none⟩ y0).setCell ⟨w.heap.size + 1 + 1, 1, none⟩ y1).setCell ⟨w.heap.size + 1 + 1, 2, none⟩ y2)) := ⟨fun w' y0 y1 y2 h => by
        have b0 := hbp2.below h hbp2.lt
        have b1 := hbq2.below h hbq2.lt
        have n0 : w.heap.size ≠ w.heap.size + 1 + 1 := by omega
        have n1 : w.heap.size + 1 ≠ w.heap.size + 1 + 1 := by omega
        have c0 := ((b0.far (p := ⟨w.heap.size + 1 + 1, 0, none⟩) n0 y0).far (p := ⟨w.heap.size + 1 + 1, 1, none⟩) n0 y1).far (p := ⟨w.heap.size + 1 + 1, 2, none⟩) n0 y2
        have c1 := ((b1.far (p := ⟨w.heap.size + 1 + 1, 0, none⟩) n1 y0).far (p := ⟨w.heap.size + 1 + 1, 1, none⟩) n1 y1).far (p := ⟨w.heap.size + 1 + 1, 2, none⟩) n1 y2
        exact ⟨(c0.cell 0).trans rfl, (c1.cell 0).trans rfl, (c0.cell 1).trans rfl, (c1.cell 1).trans rfl, (c0.cell 2).trans rfl, (c1.cell 2).trans rfl⟩⟩
      generalize valOf p.la * valOf q.lb = sa at *
      generalize valOf p.lb * valOf q.la = sb at *
      have hlow := fun (A B : Option Addr) (c d : Nat) (w : World) (h1 : Arg w A (limbs sa).length c (limbs sa)) (h2 : Arg w B (limbs sb).length d (limbs sb)) => rlowest_any (!(p.neg == q.neg)) A B _ _ c d sa sb w h1 h2 (by omega) (by omega) hsp
      unfold LowRes QRes qv at hlow
      have hLR : ∀ e w', LowRes (!(p.neg == q.neg)) sa sb e w' = QRes (lowS (!(p.neg == q.neg)) sa sb).1 (lowS (!(p.neg == q.neg)) sa sb).2.1 (lowS (!(p.neg == q.neg)) sa sb).2.2.1 (lowS (!(p.neg == q.neg)) sa sb).2.2.2 e w' := fun _ _ => rfl
      generalize (lowS (!(p.neg == q.neg)) sa sb).1 = rg at *
      generalize (lowS (!(p.neg == q.neg)) sa sb).2.1 = rn at *
      generalize (lowS (!(p.neg == q.neg)) sa sb).2.2.1 = rd at *
      generalize (lowS (!(p.neg == q.neg)) sa sb).2.2.2 = re at *
      have HB2 : Sl (∀ w' : World, RowKit.Below w2.heap.size w2 w' → (w'.cell? ⟨w.heap.size + 1 + 1, 0, none⟩ = some (.bool false) ∧ w'.cell? ⟨w.heap.size + 1 + 1, 1, none⟩ = some (.slice none 0 0) ∧ w'.cell? ⟨w.heap.size + 1 + 1, 2, none⟩ = some (.slice none 0 0)) ∧
        (w'.frozen? ⟨w.heap.size + 1 + 1, 0, none⟩ = false ∧ w'.frozen? ⟨w.heap.size + 1 + 1, 1, none⟩ = false ∧ w'.frozen? ⟨w.heap.size + 1 + 1, 2, none⟩ = false) ∧ Blk w' (w.heap.size + 1 + 1) 25 #[.bool false, .slice none 0 0, .slice none 0 0]) := ⟨fun w' h => by
        have e := hbl2.below h hbl2.lt
        exact ⟨⟨by rw [e.cell]; rfl, by rw [e.cell]; rfl, by rw [e.cell]; rfl⟩, ⟨e.frozen _, e.frozen _, e.frozen _⟩, e⟩⟩
      have HLOW : Sl _ := ⟨hlow⟩
      have HR0 : Sl _ := ⟨hR0⟩
      have HLR : Sl _ := ⟨hLR⟩
      have HQN : Sl (q.n ≠ 0) := ⟨fun h => hc0 (by have h1 := FQ.out.num.1.len; rw [h] at h1; have h2 := List.length_eq_zero_iff.1 h1; exact (valOf_limbs _).symm.trans (by rw [h2]; rfl))⟩
      have t1 := hbq2.cell 1
      simp at t1
      clear hlow hR0 hLR hl1 hl2 hsp hbl2 hbp2 hbq2
      obtain ⟨s0, s1, s2, s3, s4, s5⟩ := hS.out w2 (Below.refl _ _)
      have hd : RowKit.Below w2.heap.size w2 w2.drew := below_drewN (Below.refl _ _) 1
      have hqn1 := HQN.out
      go_wp2_with fail
      go_region_held3 (fun w' => w'.cell? ⟨w.heap.size, 0, none⟩ = some (.bool p.neg) ∧ w'.cell? ⟨w.heap.size + 1, 0, none⟩ = some (.bool q.neg) ∧ w'.cell? ⟨w.heap.size, 1, none⟩ = some (.slice p.A p.n p.c) ∧ w'.cell? ⟨w.heap.size + 1, 1, none⟩ = some (.slice q.A q.n q.c) ∧ w'.cell? ⟨w.heap.size, 2, none⟩ = some (.slice p.B p.m p.d) ∧ w'.cell? ⟨w.heap.size + 1, 2, none⟩ = some (.slice q.B q.m q.d))
        (first | (refine hS.out _ ?_; assumption) | (refine hST.out _ _ _ _ ?_; assumption) | go_keep)
        (first
          | (go_at_call 39; (with_reducible refine (T1.out _ (by (go_split_ands; assumption))).mono ?_); rintro e w3 ⟨⟨A3, c3, rfl, a1, a2, a3⟩, hb3, hs3⟩)
          | (go_at_call 39; (with_reducible refine (T2.out _ (by (go_split_ands; assumption))).mono ?_); rintro e w4 ⟨⟨A4, c4, rfl, b1, b2, b3⟩, hb4, hs4⟩)
          | (go_at_call 40; have hh := HLOW.out _ _ _ _ _ ⟨a3.below hb4, a1, a2⟩ ⟨b3, b1, b2⟩; (with_reducible refine hh.mono ?_); rintro e w5 ⟨⟨A5, c5, B5, d5, rfl, k1, k2⟩, hb5⟩; have K3 : Sl _ := ⟨k1⟩; have K4 : Sl _ := ⟨k2⟩; have hb5' := hs4.trans (hb5.mono hs4.size); obtain ⟨⟨r0, r1, r2⟩, ⟨f0, f1, f2⟩, r8⟩ := HB2.out w5 hb5'; have HR8 : Sl _ := ⟨r8⟩; clear r8 k1 k2)
          | fail)
      all_goals (
        go_wp2_with fail
        refine bodyPost_ret (results_row2 rfl _ _ (w.heap.size + 1 + 1) _ _ _ rfl (HR8.out.three _ _ _) Tryz.underlying25 rfl (by kernel_rfl)) rfl ?_
        rw [HR0.out, HLR.out]
        exact ⟨⟨A5, c5, B5, d5, rfl, K3.out.three HR8.out ni1 ni2 ni2 _ _ _, K4.out.three HR8.out ni1 ni2 ni2 _ _ _⟩, below_three (hu2.trans (hb5'.mono hu2.size)) (by omega) _ _ _⟩)
  · have hR0 : ∀ e w', QDivRes p q e w' = QRes false [] [] (checkQ (two p q) 2) e w' := fun e w' => by rw [HR.out, if_neg h0]
    have HR0 : Sl _ := ⟨hR0⟩
    clear hR0
    generalize checkQ (two p q) 2 = er at *
    have hne : (er == 0) = false := by rw [beq_eq_false_iff_ne]; exact h0
    have r0 := hbl2.cell 0
    have r1 := hbl2.cell 1
    have r2 := hbl2.cell 2
    have f0 := hbl2.frozen 0
    have f1 := hbl2.frozen 1
    have f2 := hbl2.frozen 2
    simp at r0 r1 r2
    have HBL : Sl _ := ⟨hbl2⟩
    clear hbl2 h0 HR
    go_wp2_with fail
    refine bodyPost_ret (results_row2 rfl _ _ (w.heap.size + 1 + 1) _ _ _ rfl (HBL.out.three _ _ _) Tryz.underlying25 rfl (by kernel_rfl)) rfl ?_
    rw [HR0.out]
    exact ⟨q_none _ _, below_three hu2 (by omega) _ _ _⟩
end Go.Proofs.YtgjbaamhpapeeaaGreatDoor
