/- Fractions: the reference's QAdd, QSub. -/
import Derived.Test.YtgjbaamhpapeeaaGreatDoorQuoI
namespace Go.Proofs.YtgjbaamhpapeeaaGreatDoor
set_option linter.unusedSimpArgs false
open Go.RowKit
set_option linter.unusedVariables false

theorem rplus_to (A B : Option Addr) (n m c d a b : Nat) (w0 w : World) (ha : U w A n (limbs a)) (hb : U w B m (limbs b)) (hw : Below w0.heap.size w0 w) (hn : n ≤ 1000000) (hm : m ≤ 1000000) :
    Calls Tryz.prog 41 #[.slice A n c, .slice B m d] w fun e w' => Limbs (limbs (a + b)) e w' ∧ Below w.heap.size w w' ∧ Below w0.heap.size w0 w' :=
  (rplus_any A B n m c d (limbs a) (limbs b) w ha hb hn hm).mono fun e w' ⟨h1, h2⟩ => ⟨by rw [valOf_limbs, valOf_limbs] at h1; exact h1, h2, hw.trans (h2.mono hw.size)⟩
theorem rminus_to (A B : Option Addr) (n m c d a b : Nat) (w0 w : World) (hab : b ≤ a) (ha : U w A n (limbs a)) (hb : U w B m (limbs b)) (hw : Below w0.heap.size w0 w) (hn : n ≤ 1000000) (hm : m ≤ 1000000) :
    Calls Tryz.prog 43 #[.slice A n c, .slice B m d] w fun e w' => Limbs (limbs (a - b)) e w' ∧ Below w.heap.size w w' ∧ Below w0.heap.size w0 w' :=
  (rminus_any A B n m c d (limbs a) (limbs b) w ha hb hn hm (by rw [valOf_limbs, valOf_limbs]; exact hab)).mono fun e w' ⟨h1, h2⟩ => ⟨by rw [valOf_limbs, valOf_limbs] at h1; exact h1, h2, hw.trans (h2.mono hw.size)⟩
theorem order_to (A B : Option Addr) (n m c d a b : Nat) (w : World) (ha : U w A n (limbs a)) (hb : U w B m (limbs b)) (hn : n ≤ 1000000) (hm : m ≤ 1000000) :
    Calls Tryz.prog 42 #[.slice A n c, .slice B m d] w fun e w' => e = .returned (.int .i64 (cmpN a b)) ∧ w = w' :=
  (order_any A B n m c d (limbs a) (limbs b) w ha hb (by omega) (by omega)).mono fun e w' ⟨h1, h2⟩ => ⟨by rw [valOf_limbs, valOf_limbs] at h1; exact h1, h2⟩

set_option maxHeartbeats 800000 in
set_option maxRecDepth 100000 in
theorem rQAdd_any (p q : QV) (w : World) (hp : p.ok w) (hq : q.ok w) :
    Calls Tryz.prog 9 #[p.val, q.val] w fun e w' => QAddRes p q e w' ∧ Below w.heap.size w w' := by
  have HP : Sl _ := ⟨hp⟩
  have HQ : Sl _ := ⟨hq⟩
  clear hp hq
  have hres : ∀ e w', QAddRes p q e w' = QAddRes p q e w' := fun _ _ => rfl
  have HR : Sl _ := ⟨hres⟩
  clear hres
  unfold QV.val qv
  go_enter Tryz.func9, Tryz.ntmps9
  go_wp2_with fail
  have hu : Below w.heap.size w ((((w.alloc (.cells #[.bool p.neg, .slice p.A p.n p.c, .slice p.B p.m p.d] 25)).alloc (.cells #[.bool q.neg, .slice q.A q.n q.c, .slice q.B q.m q.d] 25)).alloc (.cells #[.bool false, .slice none 0 0, .slice none 0 0] 25)).alloc (.cells #[.bool p.neg, .slice p.A p.n p.c, .slice p.B p.m p.d, .bool q.neg, .slice q.A q.n q.c, .slice q.B q.m q.d] 25)) := ((((Below.refl _ _).alloc (Nat.le_refl _) _).alloc (by simp) _).alloc (by simp; omega) _).alloc (by simp; omega) _
  have hqc := qcells_two (((w.alloc (.cells #[.bool p.neg, .slice p.A p.n p.c, .slice p.B p.m p.d] 25)).alloc (.cells #[.bool q.neg, .slice q.A q.n q.c, .slice q.B q.m q.d] 25)).alloc (.cells #[.bool false, .slice none 0 0, .slice none 0 0] 25)) p q 25
  have hbl := (Blk.new ((w.alloc (.cells #[.bool p.neg, .slice p.A p.n p.c, .slice p.B p.m p.d] 25)).alloc (.cells #[.bool q.neg, .slice q.A q.n q.c, .slice q.B q.m q.d] 25)) 25 #[.bool false, .slice none 0 0, .slice none 0 0]).alloc (.cells #[.bool p.neg, .slice p.A p.n p.c, .slice p.B p.m p.d, .bool q.neg, .slice q.A q.n q.c, .slice q.B q.m q.d] 25)
  have hbp := (((Blk.new w 25 #[.bool p.neg, .slice p.A p.n p.c, .slice p.B p.m p.d]).alloc (.cells #[.bool q.neg, .slice q.A q.n q.c, .slice q.B q.m q.d] 25)).alloc (.cells #[.bool false, .slice none 0 0, .slice none 0 0] 25)).alloc (.cells #[.bool p.neg, .slice p.A p.n p.c, .slice p.B p.m p.d, .bool q.neg, .slice q.A q.n q.c, .slice q.B q.m q.d] 25)
  have hbq := ((Blk.new (w.alloc (.cells #[.bool p.neg, .slice p.A p.n p.c, .slice p.B p.m p.d] 25)) 25 #[.bool q.neg, .slice q.A q.n q.c, .slice q.B q.m q.d]).alloc (.cells #[.bool false, .slice none 0 0, .slice none 0 0] 25)).alloc (.cells #[.bool p.neg, .slice p.A p.n p.c, .slice p.B p.m p.d, .bool q.neg, .slice q.A q.n q.c, .slice q.B q.m q.d] 25)
  have e1 : (w.alloc (.cells #[.bool p.neg, .slice p.A p.n p.c, .slice p.B p.m p.d] 25)).heap.size = w.heap.size + 1 := by simp
  rw [e1] at hbq
  clear e1
  have hsz : ((((w.alloc (.cells #[.bool p.neg, .slice p.A p.n p.c, .slice p.B p.m p.d] 25)).alloc (.cells #[.bool q.neg, .slice q.A q.n q.c, .slice q.B q.m q.d] 25)).alloc (.cells #[.bool false, .slice none 0 0, .slice none 0 0] 25)).alloc (.cells #[.bool p.neg, .slice p.A p.n p.c, .slice p.B p.m p.d, .bool q.neg, .slice q.A q.n q.c, .slice q.B q.m q.d] 25)).heap.size = w.heap.size + 1 + 1 + 1 + 1 := by simp
  have e2 : ((w.alloc (.cells #[.bool p.neg, .slice p.A p.n p.c, .slice p.B p.m p.d] 25)).alloc (.cells #[.bool q.neg, .slice q.A q.n q.c, .slice q.B q.m q.d] 25)).heap.size = w.heap.size + 1 + 1 := by simp
  have e3 : (((w.alloc (.cells #[.bool p.neg, .slice p.A p.n p.c, .slice p.B p.m p.d] 25)).alloc (.cells #[.bool q.neg, .slice q.A q.n q.c, .slice q.B q.m q.d] 25)).alloc (.cells #[.bool false, .slice none 0 0, .slice none 0 0] 25)).heap.size = w.heap.size + 1 + 1 + 1 := by simp
  rw [e2] at hbl
  rw [e3] at hqc
  clear e2 e3
  generalize ((((w.alloc (.cells #[.bool p.neg, .slice p.A p.n p.c, .slice p.B p.m p.d] 25)).alloc (.cells #[.bool q.neg, .slice q.A q.n q.c, .slice q.B q.m q.d] 25)).alloc (.cells #[.bool false, .slice none 0 0, .slice none 0 0] 25)).alloc (.cells #[.bool p.neg, .slice p.A p.n p.c, .slice p.B p.m p.d, .bool q.neg, .slice q.A q.n q.c, .slice q.B q.m q.d] 25)) = w1 at *
  have HP1 : Sl _ := ⟨HP.out.below hu⟩
  have HQ1 : Sl _ := ⟨HQ.out.below hu⟩
  have HCK : Sl _ := ⟨rbadq_any (w.heap.size + 1 + 1 + 1) 2 2 (two p q) w1 (by decide) hqc (two_ok HP1.out HQ1.out)⟩
  clear hqc
  refine HCK.out.mono ?_; rintro e w2 ⟨rfl, hb2⟩
  have hu2 := hu.trans (hb2.mono hu.size)
  have hbl2 := hbl.below hb2 hbl.lt
  clear HCK hbl
  by_cases h0 : checkQ (two p q) 2 = 0
  · have hpp := checkQ_zero h0 0 (by decide)
    have hqq := checkQ_zero h0 1 (by decide)
    have hz : w1.heap.size = w.heap.size + 1 + 1 + 1 + 1 := hsz
    have HH0 : Sl _ := ⟨h0⟩
    rw [h0]
    have FP : Sl (p.Fine w2) := ⟨QV.fine (HP1.out.below hb2) hpp⟩
    have FQ : Sl (q.Fine w2) := ⟨QV.fine (HQ1.out.below hb2) hqq⟩
    have hbp2 := hbp.below hb2 hbp.lt
    have hbq2 := hbq.below hb2 hbq.lt
    clear hpp hqq h0 hbp hbq
    have T1 : Sl _ := ⟨rtimes_at p.A q.B p.n q.m p.c q.d (valOf p.la) (valOf q.lb) w2 FP.out.num.1 FQ.out.den.1 (by have := FP.out.ln; omega) (by have := FQ.out.ld; omega)⟩
    have T2 : Sl _ := ⟨rtimes_at q.A p.B q.n p.m q.c p.d (valOf q.la) (valOf p.lb) w2 FQ.out.num.1 FP.out.den.1 (by have := FQ.out.ln; omega) (by have := FP.out.ld; omega)⟩
    have T3 : Sl _ := ⟨rtimes_at p.B q.B p.m q.m p.d q.d (valOf p.lb) (valOf q.lb) w2 FP.out.den.1 FQ.out.den.1 (by have := FP.out.ld; omega) (by have := FQ.out.ld; omega)⟩
    have hl2 : (limbs (valOf p.la * valOf q.lb)).length ≤ 1024 := by
      have k1 := limbs_len_mul (valOf p.la) (valOf q.lb); have k2 := FP.out.num.1.len; have k3 := FQ.out.den.1.len; have k4 := FP.out.ln; have k5 := FQ.out.ld; omega
    have hl3 : (limbs (valOf q.la * valOf p.lb)).length ≤ 1024 := by
      have k1 := limbs_len_mul (valOf q.la) (valOf p.lb); have k2 := FQ.out.num.1.len; have k3 := FP.out.den.1.len; have k4 := FQ.out.ln; have k5 := FP.out.ld; omega
    have HZL : Sl ((limbs (valOf p.lb * valOf q.lb)).length ≤ 16384) := ⟨by
      have k1 := limbs_len_mul (valOf p.lb) (valOf q.lb); have k2 := FP.out.den.1.len; have k3 := FQ.out.den.1.len; have k4 := FP.out.ld; have k5 := FQ.out.ld; omega⟩
    have HZ0 : Sl (valOf p.lb * valOf q.lb ≠ 0) := ⟨Nat.mul_ne_zero FP.out.pos FQ.out.pos⟩
    have hR0 : ∀ e w', QAddRes p q e w' = LowRes (sumS p.neg (valOf p.la) (valOf p.lb) q.neg (valOf q.la) (valOf q.lb)).1 (sumS p.neg (valOf p.la) (valOf p.lb) q.neg (valOf q.la) (valOf q.lb)).2 (valOf p.lb * valOf q.lb) e w' := fun e w' => by unfold QAddRes; rw [if_pos HH0.out]
    have HRS : Sl _ := ⟨hR0⟩
    have hsum : sumS p.neg (valOf p.la) (valOf p.lb) q.neg (valOf q.la) (valOf q.lb) = if p.neg = q.neg then (p.neg, valOf p.la * valOf q.lb + valOf q.la * valOf p.lb) else if valOf p.la * valOf q.lb < valOf q.la * valOf p.lb then (q.neg, valOf q.la * valOf p.lb - valOf p.la * valOf q.lb) else (p.neg, valOf p.la * valOf q.lb - valOf q.la * valOf p.lb) := rfl
    have HSUM : Sl _ := ⟨hsum⟩
    clear hsum hR0
    generalize valOf p.la * valOf q.lb = X at *
    generalize valOf q.la * valOf p.lb = Y at *
    generalize valOf p.lb * valOf q.lb = Z at *
    have hS : Sl (∀ w' : World, RowKit.Below w2.heap.size w2 w' → w'.cell? ⟨w.heap.size, 1, none⟩ = some (.slice p.A p.n p.c) ∧ w'.cell? ⟨w.heap.size, 2, none⟩ = some (.slice p.B p.m p.d) ∧ w'.cell? ⟨w.heap.size + 1, 1, none⟩ = some (.slice q.A q.n q.c) ∧ w'.cell? ⟨w.heap.size + 1, 2, none⟩ = some (.slice q.B q.m q.d) ∧ RowKit.Below w2.heap.size w2 w') := ⟨fun w' h => by
      have e1 := hbp2.below h hbp2.lt
      have e2 := hbq2.below h hbq2.lt
      exact ⟨e1.cell 1, e1.cell 2, e2.cell 1, e2.cell 2, h⟩⟩
    have HBL : Sl _ := ⟨And.intro hbp2 (And.intro hbq2 hbl2)⟩
    obtain ⟨q1, q2, q3, q4, q5⟩ := hS.out w2 (Below.refl _ _)
    have q5d : RowKit.Below w2.heap.size w2 w2.drew := below_drewN q5 1
    clear hbp2 hbq2 hbl2
    go_wp2_with fail
    go_region_held3 (fun w' => w'.cell? ⟨w.heap.size, 1, none⟩ = some (.slice p.A p.n p.c) ∧ w'.cell? ⟨w.heap.size, 2, none⟩ = some (.slice p.B p.m p.d) ∧ w'.cell? ⟨w.heap.size + 1, 1, none⟩ = some (.slice q.A q.n q.c) ∧ w'.cell? ⟨w.heap.size + 1, 2, none⟩ = some (.slice q.B q.m q.d) ∧ RowKit.Below w2.heap.size w2 w')
      (first | (refine hS.out _ ?_; assumption) | go_keep)
      (first
        | (go_at_call 39; (with_reducible refine (T1.out _ (by (go_split_ands; assumption))).mono ?_); rintro e w3 ⟨⟨A2, c2, rfl, a1, a2, a3⟩, hb3, hs3⟩)
        | (go_at_call 39; (with_reducible refine (T2.out _ (by (go_split_ands; assumption))).mono ?_); rintro e w4 ⟨⟨A3, c3, rfl, b1, b2, b3⟩, hb4, hs4⟩)
        | (go_at_call 39; (with_reducible refine (T3.out _ (by (go_split_ands; assumption))).mono ?_); rintro e w5 ⟨⟨A4, c4, rfl, d1, d2, d3⟩, hb5, hs5⟩)
        | fail)
    have hB5 := hu2.trans (hs5.mono hu2.size)
    have H2 : Sl (Arg w5 A2 (limbs X).length c2 (limbs X)) := ⟨⟨(a3.below hb4).below hb5, a1, a2⟩⟩
    have H3 : Sl (Arg w5 A3 (limbs Y).length c3 (limbs Y)) := ⟨⟨b3.below hb5, b1, b2⟩⟩
    have H4 : Sl (Arg w5 A4 (limbs Z).length c4 (limbs Z)) := ⟨⟨d3, d1, d2⟩⟩
    have HBL5 : Sl _ := ⟨And.intro (HBL.out.1.below hs5 HBL.out.1.lt) (And.intro (HBL.out.2.1.below hs5 HBL.out.2.1.lt) (HBL.out.2.2.below hs5 HBL.out.2.2.lt))⟩
    clear a1 a2 a3 b1 b2 b3 d1 d2 d3 q1 q2 q3 q4 q5 q5d hs3 hs4 hs5 hb3 hb4 hb5 T1 T2 T3 hS HBL FP FQ HP1 HQ1 HP HQ HR hu hu2 hb2 HH0
    try clear hHeld
    have HBL := HBL5
    have q0 := HBL.out.1.cell 0
    have q1 := HBL.out.2.1.cell 0
    simp at q0 q1
    clear HBL5
    have u1 : RowKit.Below w5.heap.size w5 w5 := Below.refl _ _
    by_cases hnn : p.neg = q.neg
    · have HNN : Sl _ := ⟨hnn⟩
      rw [← hnn] at q1
      clear hnn
      have hR1 : ∀ e w', QAddRes p q e w' = LowRes p.neg (X + Y) Z e w' := fun e w' => by rw [HRS.out, HSUM.out, if_pos HNN.out]
      have hsl : (limbs (X + Y)).length ≤ 16384 := by have := limbs_len_add (a := X) (b := Y) (M := 1024) hl2 hl3; omega
      generalize hSA : X + Y = sa at *
      have P1 : Sl _ := ⟨fun (W : World) (h : RowKit.Below w5.heap.size w5 W) => by
        have := rplus_to A2 A3 _ _ c2 c3 X Y w5 W  (H2.out.1.below h) (H3.out.1.below h) h (by omega) (by omega)
        rw [hSA] at this
        exact this⟩
      have hlow := fun (A B : Option Addr) (c d : Nat) (w : World) (h1 : Arg w A (limbs sa).length c (limbs sa)) (h2 : Arg w B (limbs Z).length d (limbs Z)) => rlowest_any p.neg A B _ _ c d sa Z w h1 h2 hsl HZL.out HZ0.out
      unfold LowRes QRes qv at hlow
      have hLR : ∀ e w', LowRes p.neg sa Z e w' = QRes (lowS p.neg sa Z).1 (lowS p.neg sa Z).2.1 (lowS p.neg sa Z).2.2.1 (lowS p.neg sa Z).2.2.2 e w' := fun _ _ => rfl
      generalize (lowS p.neg sa Z).1 = rg at *
      generalize (lowS p.neg sa Z).2.1 = rn at *
      generalize (lowS p.neg sa Z).2.2.1 = rd at *
      generalize (lowS p.neg sa Z).2.2.2 = re at *
      have HLOW : Sl _ := ⟨hlow⟩
      have HR1 : Sl _ := ⟨hR1⟩
      have HLR : Sl _ := ⟨hLR⟩
      have hS : Sl (∀ w' : World, RowKit.Below w5.heap.size w5 w' → w'.cell? ⟨w.heap.size, 0, none⟩ = some (.bool p.neg)) := ⟨fun w' h => (HBL.out.1.below h HBL.out.1.lt).cell 0⟩
      have hST : Sl (∀ (w' : World) (y0 y1 y2 : Value), RowKit.Below w5.heap.size w5 w' → (fun w' : World => w'.cell? ⟨w.heap.size, 0, none⟩ = some (.bool p.neg)) (((w'.setCell ⟨w.heap.size + 1 + 1, 0, none⟩ y0).setCell ⟨w.heap.size + 1 + 1, 1, none⟩ y1).setCell ⟨w.heap.size + 1 + 1, 2, none⟩ y2)) := ⟨fun w' y0 y1 y2 h => by
        have b0 := HBL.out.1.below h HBL.out.1.lt
        have n0 : w.heap.size ≠ w.heap.size + 1 + 1 := by omega
        have c0 := ((b0.far (p := ⟨w.heap.size + 1 + 1, 0, none⟩) n0 y0).far (p := ⟨w.heap.size + 1 + 1, 1, none⟩) n0 y1).far (p := ⟨w.heap.size + 1 + 1, 2, none⟩) n0 y2
        exact (c0.cell 0).trans rfl⟩
      have HB2 : Sl (∀ w' : World, RowKit.Below w5.heap.size w5 w' → (w'.cell? ⟨w.heap.size + 1 + 1, 0, none⟩ = some (.bool false) ∧ w'.cell? ⟨w.heap.size + 1 + 1, 1, none⟩ = some (.slice none 0 0) ∧ w'.cell? ⟨w.heap.size + 1 + 1, 2, none⟩ = some (.slice none 0 0)) ∧
        (w'.frozen? ⟨w.heap.size + 1 + 1, 0, none⟩ = false ∧ w'.frozen? ⟨w.heap.size + 1 + 1, 1, none⟩ = false ∧ w'.frozen? ⟨w.heap.size + 1 + 1, 2, none⟩ = false) ∧ Blk w' (w.heap.size + 1 + 1) 25 #[.bool false, .slice none 0 0, .slice none 0 0]) := ⟨fun w' h => by
        have e := HBL.out.2.2.below h HBL.out.2.2.lt
        exact ⟨⟨by rw [e.cell]; rfl, by rw [e.cell]; rfl, by rw [e.cell]; rfl⟩, ⟨e.frozen _, e.frozen _, e.frozen _⟩, e⟩⟩
      clear hlow hR1 hLR hSA hsl
      have hd : RowKit.Below w5.heap.size w5 w5.drew := below_drewN (Below.refl _ _) 1
      go_wp2_with fail
      go_region_held3 (fun w' => w'.cell? ⟨w.heap.size, 0, none⟩ = some (.bool p.neg))
        (first | (refine hS.out _ ?_; assumption) | (refine hST.out _ _ _ _ ?_; assumption) | go_keep)
        (first
          | (go_at_call 41; (with_reducible refine (P1.out _ (by (go_split_ands; assumption))).mono ?_); rintro e w6 ⟨⟨A6, c6, rfl, e1, e2, e3⟩, hb6, hs6⟩)
          | (go_at_call 40; have hh := HLOW.out _ _ _ _ _ ⟨e3, e1, e2⟩ (H4.out.below hs6); (with_reducible refine hh.mono ?_); rintro e w7 ⟨⟨A7, c7, B7, d7, rfl, k1, k2⟩, hb7⟩; have K3 : Sl _ := ⟨k1⟩; have K4 : Sl _ := ⟨k2⟩; have hb7' := hs6.trans (hb7.mono hs6.size); obtain ⟨⟨r0, r1, r2⟩, ⟨f0, f1, f2⟩, r8⟩ := HB2.out w7 hb7'; have HR8 : Sl _ := ⟨r8⟩; clear r8 k1 k2)
          | fail)
      all_goals (
        go_wp2_with fail
        refine bodyPost_ret (results_row2 rfl _ _ (w.heap.size + 1 + 1) _ _ _ rfl (HR8.out.three _ _ _) Tryz.underlying25 rfl (by kernel_rfl)) rfl ?_
        rw [HR1.out, HLR.out]
        exact ⟨⟨A7, c7, B7, d7, rfl, K3.out.three HR8.out ni1 ni2 ni2 _ _ _, K4.out.three HR8.out ni1 ni2 ni2 _ _ _⟩, below_three (hB5.trans (hb7'.mono hB5.size)) (by omega) _ _ _⟩)
    · have HNN : Sl _ := ⟨hnn⟩
      have hnb : (p.neg == q.neg) = false := by rw [beq_eq_false_iff_ne]; exact hnn
      have HC1 : Sl _ := ⟨order_to A2 A3 _ _ c2 c3 X Y w5 H2.out.1 H3.out.1 (by omega) (by omega)⟩
      clear hnn
      by_cases hlt : X < Y
      · have hc := HC1.out
        rw [cmpN_lt hlt] at hc
        have HC2 : Sl _ := ⟨hc⟩
        have HLT : Sl _ := ⟨hlt⟩
        have hml := limbs_len_mono (Nat.le_of_lt hlt)
        clear hc HC1 hlt
        go_wp2_with fail
        refine HC2.out.mono ?_; rintro e w' ⟨rfl, rfl⟩
        have hR1 : ∀ e w', QAddRes p q e w' = LowRes q.neg (Y - X) Z e w' := fun e w' => by rw [HRS.out, HSUM.out, if_neg HNN.out, if_pos HLT.out]
        have hsl : (limbs (Y - X)).length ≤ 16384 := by have := limbs_len_mono (Nat.sub_le Y X); omega
        generalize hSA : Y - X = sa at *
        have P1 : Sl _ := ⟨fun (W : World) (h : RowKit.Below w5.heap.size w5 W) => by
          have := rminus_to A3 A2 _ _ c3 c2 Y X w5 W (Nat.le_of_lt HLT.out) (H3.out.1.below h) (H2.out.1.below h) h (by omega) (by omega)
          rw [hSA] at this
          exact this⟩
        have hlow := fun (A B : Option Addr) (c d : Nat) (w : World) (h1 : Arg w A (limbs sa).length c (limbs sa)) (h2 : Arg w B (limbs Z).length d (limbs Z)) => rlowest_any q.neg A B _ _ c d sa Z w h1 h2 hsl HZL.out HZ0.out
        unfold LowRes QRes qv at hlow
        have hLR : ∀ e w', LowRes q.neg sa Z e w' = QRes (lowS q.neg sa Z).1 (lowS q.neg sa Z).2.1 (lowS q.neg sa Z).2.2.1 (lowS q.neg sa Z).2.2.2 e w' := fun _ _ => rfl
        generalize (lowS q.neg sa Z).1 = rg at *
        generalize (lowS q.neg sa Z).2.1 = rn at *
        generalize (lowS q.neg sa Z).2.2.1 = rd at *
        generalize (lowS q.neg sa Z).2.2.2 = re at *
        have HLOW : Sl _ := ⟨hlow⟩
        have HR1 : Sl _ := ⟨hR1⟩
        have HLR : Sl _ := ⟨hLR⟩
        have hS : Sl (∀ w' : World, RowKit.Below w5.heap.size w5 w' → w'.cell? ⟨w.heap.size + 1, 0, none⟩ = some (.bool q.neg)) := ⟨fun w' h => (HBL.out.2.1.below h HBL.out.2.1.lt).cell 0⟩
        have hST : Sl (∀ (w' : World) (y0 y1 y2 : Value), RowKit.Below w5.heap.size w5 w' → (fun w' : World => w'.cell? ⟨w.heap.size + 1, 0, none⟩ = some (.bool q.neg)) (((w'.setCell ⟨w.heap.size + 1 + 1, 0, none⟩ y0).setCell ⟨w.heap.size + 1 + 1, 1, none⟩ y1).setCell ⟨w.heap.size + 1 + 1, 2, none⟩ y2)) := ⟨fun w' y0 y1 y2 h => by
          have b0 := HBL.out.2.1.below h HBL.out.2.1.lt
          have n0 : w.heap.size + 1 ≠ w.heap.size + 1 + 1 := by omega
          have c0 := ((b0.far (p := ⟨w.heap.size + 1 + 1, 0, none⟩) n0 y0).far (p := ⟨w.heap.size + 1 + 1, 1, none⟩) n0 y1).far (p := ⟨w.heap.size + 1 + 1, 2, none⟩) n0 y2
          exact (c0.cell 0).trans rfl⟩
        have HB2 : Sl (∀ w' : World, RowKit.Below w5.heap.size w5 w' → (w'.cell? ⟨w.heap.size + 1 + 1, 0, none⟩ = some (.bool false) ∧ w'.cell? ⟨w.heap.size + 1 + 1, 1, none⟩ = some (.slice none 0 0) ∧ w'.cell? ⟨w.heap.size + 1 + 1, 2, none⟩ = some (.slice none 0 0)) ∧
          (w'.frozen? ⟨w.heap.size + 1 + 1, 0, none⟩ = false ∧ w'.frozen? ⟨w.heap.size + 1 + 1, 1, none⟩ = false ∧ w'.frozen? ⟨w.heap.size + 1 + 1, 2, none⟩ = false) ∧ Blk w' (w.heap.size + 1 + 1) 25 #[.bool false, .slice none 0 0, .slice none 0 0]) := ⟨fun w' h => by
          have e := HBL.out.2.2.below h HBL.out.2.2.lt
          exact ⟨⟨by rw [e.cell]; rfl, by rw [e.cell]; rfl, by rw [e.cell]; rfl⟩, ⟨e.frozen _, e.frozen _, e.frozen _⟩, e⟩⟩
        clear hlow hR1 hLR hSA hsl
        have hd : RowKit.Below w5.heap.size w5 w5.drew := below_drewN (Below.refl _ _) 1
        go_wp2_with fail
        go_region_held3 (fun w' => w'.cell? ⟨w.heap.size + 1, 0, none⟩ = some (.bool q.neg))
          (first | (refine hS.out _ ?_; assumption) | (refine hST.out _ _ _ _ ?_; assumption) | go_keep)
          (first
            | (go_at_call 43; (with_reducible refine (P1.out _ (by (go_split_ands; assumption))).mono ?_); rintro e w6 ⟨⟨A6, c6, rfl, e1, e2, e3⟩, hb6, hs6⟩)
            | (go_at_call 40; have hh := HLOW.out _ _ _ _ _ ⟨e3, e1, e2⟩ (H4.out.below hs6); (with_reducible refine hh.mono ?_); rintro e w7 ⟨⟨A7, c7, B7, d7, rfl, k1, k2⟩, hb7⟩; have K3 : Sl _ := ⟨k1⟩; have K4 : Sl _ := ⟨k2⟩; have hb7' := hs6.trans (hb7.mono hs6.size); obtain ⟨⟨r0, r1, r2⟩, ⟨f0, f1, f2⟩, r8⟩ := HB2.out w7 hb7'; have HR8 : Sl _ := ⟨r8⟩; clear r8 k1 k2)
            | fail)
        all_goals (
          go_wp2_with fail
          refine bodyPost_ret (results_row2 rfl _ _ (w.heap.size + 1 + 1) _ _ _ rfl (HR8.out.three _ _ _) Tryz.underlying25 rfl (by kernel_rfl)) rfl ?_
          rw [HR1.out, HLR.out]
          exact ⟨⟨A7, c7, B7, d7, rfl, K3.out.three HR8.out ni1 ni2 ni2 _ _ _, K4.out.three HR8.out ni1 ni2 ni2 _ _ _⟩, below_three (hB5.trans (hb7'.mono hB5.size)) (by omega) _ _ _⟩)
      · have hge : (0 : Int) ≤ cmpN X Y := by unfold cmpN; split <;> (try split) <;> omega
        have hc := HC1.out
        generalize cmpN X Y = z at hc hge
        have HC2 : Sl _ := ⟨hc⟩
        have HLT : Sl _ := ⟨hlt⟩
        have hml := limbs_len_mono (Nat.le_of_not_lt hlt)
        clear hc HC1 hlt
        go_wp2_with fail
        refine HC2.out.mono ?_; rintro e w' ⟨rfl, rfl⟩
        have hR1 : ∀ e w', QAddRes p q e w' = LowRes p.neg (X - Y) Z e w' := fun e w' => by rw [HRS.out, HSUM.out, if_neg HNN.out, if_neg HLT.out]
        have hsl : (limbs (X - Y)).length ≤ 16384 := by have := limbs_len_mono (Nat.sub_le X Y); omega
        generalize hSA : X - Y = sa at *
        have P1 : Sl _ := ⟨fun (W : World) (h : RowKit.Below w5.heap.size w5 W) => by
          have := rminus_to A2 A3 _ _ c2 c3 X Y w5 W (Nat.le_of_not_lt HLT.out) (H2.out.1.below h) (H3.out.1.below h) h (by omega) (by omega)
          rw [hSA] at this
          exact this⟩
        have hlow := fun (A B : Option Addr) (c d : Nat) (w : World) (h1 : Arg w A (limbs sa).length c (limbs sa)) (h2 : Arg w B (limbs Z).length d (limbs Z)) => rlowest_any p.neg A B _ _ c d sa Z w h1 h2 hsl HZL.out HZ0.out
        unfold LowRes QRes qv at hlow
        have hLR : ∀ e w', LowRes p.neg sa Z e w' = QRes (lowS p.neg sa Z).1 (lowS p.neg sa Z).2.1 (lowS p.neg sa Z).2.2.1 (lowS p.neg sa Z).2.2.2 e w' := fun _ _ => rfl
        generalize (lowS p.neg sa Z).1 = rg at *
        generalize (lowS p.neg sa Z).2.1 = rn at *
        generalize (lowS p.neg sa Z).2.2.1 = rd at *
        generalize (lowS p.neg sa Z).2.2.2 = re at *
        have HLOW : Sl _ := ⟨hlow⟩
        have HR1 : Sl _ := ⟨hR1⟩
        have HLR : Sl _ := ⟨hLR⟩
        have hS : Sl (∀ w' : World, RowKit.Below w5.heap.size w5 w' → w'.cell? ⟨w.heap.size, 0, none⟩ = some (.bool p.neg)) := ⟨fun w' h => (HBL.out.1.below h HBL.out.1.lt).cell 0⟩
        have hST : Sl (∀ (w' : World) (y0 y1 y2 : Value), RowKit.Below w5.heap.size w5 w' → (fun w' : World => w'.cell? ⟨w.heap.size, 0, none⟩ = some (.bool p.neg)) (((w'.setCell ⟨w.heap.size + 1 + 1, 0, none⟩ y0).setCell ⟨w.heap.size + 1 + 1, 1, none⟩ y1).setCell ⟨w.heap.size + 1 + 1, 2, none⟩ y2)) := ⟨fun w' y0 y1 y2 h => by
          have b0 := HBL.out.1.below h HBL.out.1.lt
          have n0 : w.heap.size ≠ w.heap.size + 1 + 1 := by omega
          have c0 := ((b0.far (p := ⟨w.heap.size + 1 + 1, 0, none⟩) n0 y0).far (p := ⟨w.heap.size + 1 + 1, 1, none⟩) n0 y1).far (p := ⟨w.heap.size + 1 + 1, 2, none⟩) n0 y2
          exact (c0.cell 0).trans rfl⟩
        have HB2 : Sl (∀ w' : World, RowKit.Below w5.heap.size w5 w' → (w'.cell? ⟨w.heap.size + 1 + 1, 0, none⟩ = some (.bool false) ∧ w'.cell? ⟨w.heap.size + 1 + 1, 1, none⟩ = some (.slice none 0 0) ∧ w'.cell? ⟨w.heap.size + 1 + 1, 2, none⟩ = some (.slice none 0 0)) ∧
          (w'.frozen? ⟨w.heap.size + 1 + 1, 0, none⟩ = false ∧ w'.frozen? ⟨w.heap.size + 1 + 1, 1, none⟩ = false ∧ w'.frozen? ⟨w.heap.size + 1 + 1, 2, none⟩ = false) ∧ Blk w' (w.heap.size + 1 + 1) 25 #[.bool false, .slice none 0 0, .slice none 0 0]) := ⟨fun w' h => by
          have e := HBL.out.2.2.below h HBL.out.2.2.lt
          exact ⟨⟨by rw [e.cell]; rfl, by rw [e.cell]; rfl, by rw [e.cell]; rfl⟩, ⟨e.frozen _, e.frozen _, e.frozen _⟩, e⟩⟩
        clear hlow hR1 hLR hSA hsl
        have hd : RowKit.Below w5.heap.size w5 w5.drew := below_drewN (Below.refl _ _) 1
        go_wp2_with fail
        go_region_held3 (fun w' => w'.cell? ⟨w.heap.size, 0, none⟩ = some (.bool p.neg))
          (first | (refine hS.out _ ?_; assumption) | (refine hST.out _ _ _ _ ?_; assumption) | go_keep)
          (first
            | (go_at_call 43; (with_reducible refine (P1.out _ (by (go_split_ands; assumption))).mono ?_); rintro e w6 ⟨⟨A6, c6, rfl, e1, e2, e3⟩, hb6, hs6⟩)
            | (go_at_call 40; have hh := HLOW.out _ _ _ _ _ ⟨e3, e1, e2⟩ (H4.out.below hs6); (with_reducible refine hh.mono ?_); rintro e w7 ⟨⟨A7, c7, B7, d7, rfl, k1, k2⟩, hb7⟩; have K3 : Sl _ := ⟨k1⟩; have K4 : Sl _ := ⟨k2⟩; have hb7' := hs6.trans (hb7.mono hs6.size); obtain ⟨⟨r0, r1, r2⟩, ⟨f0, f1, f2⟩, r8⟩ := HB2.out w7 hb7'; have HR8 : Sl _ := ⟨r8⟩; clear r8 k1 k2)
            | fail)
        all_goals (
          go_wp2_with fail
          refine bodyPost_ret (results_row2 rfl _ _ (w.heap.size + 1 + 1) _ _ _ rfl (HR8.out.three _ _ _) Tryz.underlying25 rfl (by kernel_rfl)) rfl ?_
          rw [HR1.out, HLR.out]
          exact ⟨⟨A7, c7, B7, d7, rfl, K3.out.three HR8.out ni1 ni2 ni2 _ _ _, K4.out.three HR8.out ni1 ni2 ni2 _ _ _⟩, below_three (hB5.trans (hb7'.mono hB5.size)) (by omega) _ _ _⟩)
  · have hR0 : ∀ e w', QAddRes p q e w' = QRes false [] [] (checkQ (two p q) 2) e w' := fun e w' => by unfold QAddRes; rw [if_neg h0]
    have HR0 : Sl _ := ⟨hR0⟩
    clear hR0
    generalize checkQ (two p q) 2 = er at *
    have hne : (er == 0) = false := by rw [beq_eq_false_iff_ne]; exact h0
    have r0 := hbl2.cell 0
    have r1 := hbl2.cell 1
    have r2 := hbl2.cell 2
    have f0 := hbl2.frozen 0
    have f1 := hbl2.frozen 1
    have f2 := hbl2.frozen 2
    simp at r0 r1 r2
    have HBL : Sl _ := ⟨hbl2⟩
    clear hbl2 h0 HR
    go_wp2_with fail
    refine bodyPost_ret (results_row2 rfl _ _ (w.heap.size + 1 + 1) _ _ _ rfl (HBL.out.three _ _ _) Tryz.underlying25 rfl (by kernel_rfl)) rfl ?_
    rw [HR0.out]
    exact ⟨q_none _ _, below_three hu2 (by omega) _ _ _⟩
end Go.Proofs.YtgjbaamhpapeeaaGreatDoor
