/- The law WideQuos returns true, where awake does. -/
import Derived.Test.YtgjbaamhpapeeaaGreatDoorQuoL
import Derived.Test.YtgjbaamhpapeeaaGreatDoorQuoC
namespace Go.Proofs.YtgjbaamhpapeeaaGreatDoor
open Go.RowKit
set_option linter.unusedVariables false
set_option linter.unusedSimpArgs false

theorem QFloorRes_form (p : QV) (w0 : World) (hp : p.ok w0) : ∃ ng l er, l.length ≤ 1000 ∧ ∀ e w, QFloorRes p e w = FRes ng l er e w := by
  unfold QFloorRes
  by_cases h : checkQ (fun _ => p) 1 = 0
  · refine ⟨p.neg, limbs (floorN p.neg (valOf p.la) (valOf p.lb)), 0, ?_, fun e w => by rw [if_pos h]⟩
    have F := QV.fine hp (checkQ_zero h 0 (by decide))
    have h1 := F.num.1.len
    have h2 := F.ln
    have h3 : (limbs (valOf p.la / valOf p.lb + 1)).length ≤ 512 + 1 := limbs_len_add (Nat.le_trans (limbs_len_mono (Nat.div_le_self _ _)) (by omega)) (Nat.le_trans (limbs_len_le (k := 1) (by decide)) (by decide))
    refine Nat.le_trans (limbs_len_mono ?_) (Nat.le_trans h3 (by decide))
    unfold floorN
    split <;> omega
  · exact ⟨false, [], checkQ (fun _ => p) 1, by simp, fun e w => by rw [if_neg h]⟩
theorem same_eq (A B : Option Addr) (c d : Nat) (l : List Nat) (w : World) (ha : Arg w A l.length c l) (hb : Arg w B l.length d l) (hl : l.length ≤ 1000) :
    Calls Tryz.prog 23 #[.slice A l.length c, .slice B l.length d] w fun e w' => e = .returned (.bool true) ∧ Below w.heap.size w w' :=
  (same_any A B _ _ c d l l w ha.1 hb.1 (by omega) (by omega)).mono fun e w' ⟨h1, q, h2⟩ => by
    subst h2
    exact ⟨by simpa using h1, below_drewN (Below.refl _ _) q⟩

set_option maxHeartbeats 6400000 in
set_option maxRecDepth 100000 in
theorem quos_main (HAW : Awake) (p q : QV) (k : Int) (w : World) (HP : Sl (p.ok w)) (HQ : Sl (q.ok w)) (HT : Sl (Tab10 w)) (HM1 : Sl (muchS p.n p.m = false)) (HM2 : Sl (muchS q.n q.m = false)) :
    Calls Tryz.prog 3 #[.agg #[.bool p.neg, .slice p.A p.n p.c, .slice p.B p.m p.d, .bool q.neg, .slice q.A q.n q.c, .slice q.B q.m q.d, .int .i64 k]] w fun e w' => e = .returned (.bool true) ∧ Below w.heap.size w w' := by
  have HMU1 : Sl _ := ⟨fun (W : World) (h : Below w.heap.size w W) => much_any p.neg p.A p.B p.n p.m p.c p.d p.la p.lb W (HP.out.num.below h) (HP.out.den.below h)⟩
  have HMU2 : Sl _ := ⟨fun (W : World) (h : Below w.heap.size w W) => much_any q.neg q.A q.B q.n q.m q.c q.d q.la q.lb W (HQ.out.num.below h) (HQ.out.den.below h)⟩
  rw [HM1.out] at HMU1
  rw [HM2.out] at HMU2
  clear HM1 HM2
  have nob : ∀ b : Bool, noInt (.bool b) := fun b _ _ => by simp
  have nos : ∀ (A : Option Addr) (n c : Nat), noInt (.slice A n c) := fun A n c _ _ => by simp
  obtain ⟨ng1, ln1, ld1, er1, l1, l2, F1⟩ := QAddRes_form p q
  have HF1 : Sl _ := ⟨F1⟩
  have HLa1 : Sl _ := ⟨l1⟩
  have HLb1 : Sl _ := ⟨l2⟩
  clear l1 l2 F1
  obtain ⟨ng2, ln2, ld2, er2, l1, l2, F1⟩ := QSubRes_form p q
  have HF2 : Sl _ := ⟨F1⟩
  have HLa2 : Sl _ := ⟨l1⟩
  have HLb2 : Sl _ := ⟨l2⟩
  clear l1 l2 F1
  obtain ⟨ng3, ln3, ld3, er3, l1, l2, F1⟩ := QMulRes_form p q
  have HF3 : Sl _ := ⟨F1⟩
  have HLa3 : Sl _ := ⟨l1⟩
  have HLb3 : Sl _ := ⟨l2⟩
  clear l1 l2 F1
  obtain ⟨ng4, ln4, ld4, er4, l1, l2, F1⟩ := QDivRes_form p q
  have HF4 : Sl _ := ⟨F1⟩
  have HLa4 : Sl _ := ⟨l1⟩
  have HLb4 : Sl _ := ⟨l2⟩
  clear l1 l2 F1
  obtain ⟨ng5, ln5, er5, l1, F1⟩ := QFloorRes_form p w HP.out
  have HF5 : Sl _ := ⟨F1⟩
  have HLa5 : Sl _ := ⟨l1⟩
  clear l1 F1
  obtain ⟨z1, z2, hzz⟩ : ∃ z1 z2, QCmpS p q = (z1, z2) := ⟨_, _, rfl⟩
  have hcw := fun (W : World) (h : Below w.heap.size w W) => QCmp_any p q W (HP.out.below h) (HQ.out.below h)
  have hcr := fun (W : World) (h : Below w.heap.size w W) => rQCmp_any p q W (HP.out.below h) (HQ.out.below h)
  rw [hzz] at hcw hcr
  unfold QV.val qv at hcw hcr
  simp only [] at hcw hcr
  have HCW : Sl _ := ⟨hcw⟩
  have HCR : Sl _ := ⟨hcr⟩
  clear hcw hcr hzz
  obtain ⟨pr, hpr⟩ : ∃ b, properS p.neg p.la p.lb = b := ⟨_, rfl⟩
  have hpw := fun (W : World) (h : Below w.heap.size w W) => Proper_any p.neg p.A p.B p.n p.m p.c p.d p.la p.lb W (HP.out.below h).num (HP.out.below h).den
  have hpv := fun (W : World) (h : Below w.heap.size w W) => rProper_any p.neg p.A p.B p.n p.m p.c p.d p.la p.lb W (HP.out.below h).num (HP.out.below h).den
  rw [hpr] at hpw hpv
  unfold qv at hpw hpv
  have HPW : Sl _ := ⟨hpw⟩
  have HPV : Sl _ := ⟨hpv⟩
  clear hpw hpv hpr
  have u_0 : Below w.heap.size w (w.alloc (.cells #[.bool p.neg, .slice p.A p.n p.c, .slice p.B p.m p.d, .bool q.neg, .slice q.A q.n q.c, .slice q.B q.m q.d, .int .i64 k] 27)) := (Below.refl _ _).alloc (Nat.le_refl _) _
  have X_0 := Blk.new w 27 #[.bool p.neg, .slice p.A p.n p.c, .slice p.B p.m p.d, .bool q.neg, .slice q.A q.n q.c, .slice q.B q.m q.d, .int .i64 k]
  go_enter Tryz.func3, Tryz.ntmps3
  go_wp2_with fail
  generalize w.alloc (.cells #[.bool p.neg, .slice p.A p.n p.c, .slice p.B p.m p.d, .bool q.neg, .slice q.A q.n q.c, .slice q.B q.m q.d, .int .i64 k] 27) = w0 at *
  refine (HMU1.out w0 u_0).mono ?_; rintro e w1 ⟨rfl, hb⟩
  clear HMU1
  have X_1 := X_0.below hb X_0.lt
  have u_1 := u_0.trans (hb.mono u_0.size)
  clear X_0 u_0 hb
  have x0 := X_1.cell 0
  have x1 := X_1.cell 1
  have x2 := X_1.cell 2
  have x3 := X_1.cell 3
  have x4 := X_1.cell 4
  have x5 := X_1.cell 5
  have x6 := X_1.cell 6
  simp at x0 x1 x2 x3 x4 x5 x6
  go_wp2_with fail
  refine (HMU2.out w1 u_1).mono ?_; rintro e w2 ⟨rfl, hb⟩
  clear HMU2
  clear x0 x1 x2 x3 x4 x5 x6
  have X_2 := X_1.below hb X_1.lt
  have u_2 := u_1.trans (hb.mono u_1.size)
  clear X_1 u_1 hb
  have x0 := X_2.cell 0
  have x1 := X_2.cell 1
  have x2 := X_2.cell 2
  have x3 := X_2.cell 3
  have x4 := X_2.cell 4
  have x5 := X_2.cell 5
  have x6 := X_2.cell 6
  simp at x0 x1 x2 x3 x4 x5 x6
  have hc := QAdd_any p q _ (HP.out.below u_2) (HQ.out.below u_2)
  unfold QV.val qv at hc
  have HC : Sl _ := ⟨hc⟩
  clear hc
  go_wp2_with fail
  refine HC.out.mono ?_; rintro e w3 ⟨hr, hb⟩
  rw [HF1.out] at hr
  obtain ⟨A3, c3, B3, d3, rfl, g1, g2⟩ := hr
  unfold qv
  clear HC
  clear x0 x1 x2 x3 x4 x5 x6
  have hKA : Sl _ := ⟨And.intro g1 g2⟩
  clear g1 g2
  have X_3 := X_2.below hb X_2.lt
  have u_3 := u_2.trans (hb.mono u_2.size)
  clear X_2 u_2 hb
  have KA_3 := hKA
  clear hKA
  have neXVA : w.heap.size ≠ w3.heap.size := Nat.ne_of_lt X_3.lt
  have neWVA : w.heap.size ≤ w3.heap.size := u_3.size
  have hal : Below w3.heap.size w3 (w3.alloc (.cells #[.bool ng1, .slice A3 ln1.length c3, .slice B3 ld1.length d3] 25)) := (Below.refl _ _).alloc (Nat.le_refl _) _
  have VA_4 := Blk.new w3 25 #[.bool ng1, .slice A3 ln1.length c3, .slice B3 ld1.length d3]
  have X_4 := X_3.below hal X_3.lt
  have KA_4 : Sl _ := ⟨And.intro (KA_3.out.1.below hal) (KA_3.out.2.below hal)⟩
  have u_4 := u_3.trans (hal.mono u_3.size)
  clear X_3 KA_3 u_3 hal
  have x0 := X_4.cell 0
  have x1 := X_4.cell 1
  have x2 := X_4.cell 2
  have x3 := X_4.cell 3
  have x4 := X_4.cell 4
  have x5 := X_4.cell 5
  have x6 := X_4.cell 6
  simp at x0 x1 x2 x3 x4 x5 x6
  have hc := rQAdd_any p q _ (HP.out.below u_4) (HQ.out.below u_4)
  unfold QV.val qv at hc
  have HC : Sl _ := ⟨hc⟩
  clear hc
  go_wp2_with fail
  generalize hw4 : w3.alloc (.cells #[.bool ng1, .slice A3 ln1.length c3, .slice B3 ld1.length d3] 25) = w4 at *
  clear hw4
  generalize w3.heap.size = GVA at *
  refine HC.out.mono ?_; rintro e w5 ⟨hr, hb⟩
  rw [HF1.out] at hr
  obtain ⟨A5, c5, B5, d5, rfl, g1, g2⟩ := hr
  unfold qv
  clear HC
  clear x0 x1 x2 x3 x4 x5 x6
  have hKB : Sl _ := ⟨And.intro g1 g2⟩
  clear g1 g2
  have X_5 := X_4.below hb X_4.lt
  have VA_5 := VA_4.below hb VA_4.lt
  have KA_5 : Sl _ := ⟨And.intro (KA_4.out.1.below hb) (KA_4.out.2.below hb)⟩
  have u_5 := u_4.trans (hb.mono u_4.size)
  clear X_4 VA_4 KA_4 u_4 hb
  have KB_5 := hKB
  clear hKB
  have neXVB : w.heap.size ≠ w5.heap.size := Nat.ne_of_lt X_5.lt
  have neVAVB : GVA ≠ w5.heap.size := Nat.ne_of_lt VA_5.lt
  have neWVB : w.heap.size ≤ w5.heap.size := u_5.size
  have hal : Below w5.heap.size w5 (w5.alloc (.cells #[.bool ng1, .slice A5 ln1.length c5, .slice B5 ld1.length d5] 25)) := (Below.refl _ _).alloc (Nat.le_refl _) _
  have VB_6 := Blk.new w5 25 #[.bool ng1, .slice A5 ln1.length c5, .slice B5 ld1.length d5]
  have X_6 := X_5.below hal X_5.lt
  have VA_6 := VA_5.below hal VA_5.lt
  have KA_6 : Sl _ := ⟨And.intro (KA_5.out.1.below hal) (KA_5.out.2.below hal)⟩
  have KB_6 : Sl _ := ⟨And.intro (KB_5.out.1.below hal) (KB_5.out.2.below hal)⟩
  have u_6 := u_5.trans (hal.mono u_5.size)
  clear X_5 VA_5 KA_5 KB_5 u_5 hal
  have x0 := X_6.cell 0
  have x1 := X_6.cell 1
  have x2 := X_6.cell 2
  have x3 := X_6.cell 3
  have x4 := X_6.cell 4
  have x5 := X_6.cell 5
  have x6 := X_6.cell 6
  simp at x0 x1 x2 x3 x4 x5 x6
  have hc := QSub_any p q _ (HP.out.below u_6) (HQ.out.below u_6)
  unfold QV.val qv at hc
  have HC : Sl _ := ⟨hc⟩
  clear hc
  go_wp2_with fail
  generalize hw6 : w5.alloc (.cells #[.bool ng1, .slice A5 ln1.length c5, .slice B5 ld1.length d5] 25) = w6 at *
  clear hw6
  generalize w5.heap.size = GVB at *
  refine HC.out.mono ?_; rintro e w7 ⟨hr, hb⟩
  rw [HF2.out] at hr
  obtain ⟨A7, c7, B7, d7, rfl, g1, g2⟩ := hr
  unfold qv
  clear HC
  clear x0 x1 x2 x3 x4 x5 x6
  have hKC : Sl _ := ⟨And.intro g1 g2⟩
  clear g1 g2
  have X_7 := X_6.below hb X_6.lt
  have VA_7 := VA_6.below hb VA_6.lt
  have VB_7 := VB_6.below hb VB_6.lt
  have KA_7 : Sl _ := ⟨And.intro (KA_6.out.1.below hb) (KA_6.out.2.below hb)⟩
  have KB_7 : Sl _ := ⟨And.intro (KB_6.out.1.below hb) (KB_6.out.2.below hb)⟩
  have u_7 := u_6.trans (hb.mono u_6.size)
  clear X_6 VA_6 VB_6 KA_6 KB_6 u_6 hb
  have KC_7 := hKC
  clear hKC
  have neXVC : w.heap.size ≠ w7.heap.size := Nat.ne_of_lt X_7.lt
  have neVAVC : GVA ≠ w7.heap.size := Nat.ne_of_lt VA_7.lt
  have neVBVC : GVB ≠ w7.heap.size := Nat.ne_of_lt VB_7.lt
  have neWVC : w.heap.size ≤ w7.heap.size := u_7.size
  have hal : Below w7.heap.size w7 (w7.alloc (.cells #[.bool ng2, .slice A7 ln2.length c7, .slice B7 ld2.length d7] 25)) := (Below.refl _ _).alloc (Nat.le_refl _) _
  have VC_8 := Blk.new w7 25 #[.bool ng2, .slice A7 ln2.length c7, .slice B7 ld2.length d7]
  have X_8 := X_7.below hal X_7.lt
  have VA_8 := VA_7.below hal VA_7.lt
  have VB_8 := VB_7.below hal VB_7.lt
  have KA_8 : Sl _ := ⟨And.intro (KA_7.out.1.below hal) (KA_7.out.2.below hal)⟩
  have KB_8 : Sl _ := ⟨And.intro (KB_7.out.1.below hal) (KB_7.out.2.below hal)⟩
  have KC_8 : Sl _ := ⟨And.intro (KC_7.out.1.below hal) (KC_7.out.2.below hal)⟩
  have u_8 := u_7.trans (hal.mono u_7.size)
  clear X_7 VA_7 VB_7 KA_7 KB_7 KC_7 u_7 hal
  have x0 := X_8.cell 0
  have x1 := X_8.cell 1
  have x2 := X_8.cell 2
  have x3 := X_8.cell 3
  have x4 := X_8.cell 4
  have x5 := X_8.cell 5
  have x6 := X_8.cell 6
  simp at x0 x1 x2 x3 x4 x5 x6
  have hc := rQSub_any p q _ (HP.out.below u_8) (HQ.out.below u_8)
  unfold QV.val qv at hc
  have HC : Sl _ := ⟨hc⟩
  clear hc
  go_wp2_with fail
  generalize hw8 : w7.alloc (.cells #[.bool ng2, .slice A7 ln2.length c7, .slice B7 ld2.length d7] 25) = w8 at *
  clear hw8
  generalize w7.heap.size = GVC at *
  refine HC.out.mono ?_; rintro e w9 ⟨hr, hb⟩
  rw [HF2.out] at hr
  obtain ⟨A9, c9, B9, d9, rfl, g1, g2⟩ := hr
  unfold qv
  clear HC
  clear x0 x1 x2 x3 x4 x5 x6
  have hKD : Sl _ := ⟨And.intro g1 g2⟩
  clear g1 g2
  have X_9 := X_8.below hb X_8.lt
  have VA_9 := VA_8.below hb VA_8.lt
  have VB_9 := VB_8.below hb VB_8.lt
  have VC_9 := VC_8.below hb VC_8.lt
  have KA_9 : Sl _ := ⟨And.intro (KA_8.out.1.below hb) (KA_8.out.2.below hb)⟩
  have KB_9 : Sl _ := ⟨And.intro (KB_8.out.1.below hb) (KB_8.out.2.below hb)⟩
  have KC_9 : Sl _ := ⟨And.intro (KC_8.out.1.below hb) (KC_8.out.2.below hb)⟩
  have u_9 := u_8.trans (hb.mono u_8.size)
  clear X_8 VA_8 VB_8 VC_8 KA_8 KB_8 KC_8 u_8 hb
  have KD_9 := hKD
  clear hKD
  have neXVD : w.heap.size ≠ w9.heap.size := Nat.ne_of_lt X_9.lt
  have neVAVD : GVA ≠ w9.heap.size := Nat.ne_of_lt VA_9.lt
  have neVBVD : GVB ≠ w9.heap.size := Nat.ne_of_lt VB_9.lt
  have neVCVD : GVC ≠ w9.heap.size := Nat.ne_of_lt VC_9.lt
  have neWVD : w.heap.size ≤ w9.heap.size := u_9.size
  have hal : Below w9.heap.size w9 (w9.alloc (.cells #[.bool ng2, .slice A9 ln2.length c9, .slice B9 ld2.length d9] 25)) := (Below.refl _ _).alloc (Nat.le_refl _) _
  have VD_10 := Blk.new w9 25 #[.bool ng2, .slice A9 ln2.length c9, .slice B9 ld2.length d9]
  have X_10 := X_9.below hal X_9.lt
  have VA_10 := VA_9.below hal VA_9.lt
  have VB_10 := VB_9.below hal VB_9.lt
  have VC_10 := VC_9.below hal VC_9.lt
  have KA_10 : Sl _ := ⟨And.intro (KA_9.out.1.below hal) (KA_9.out.2.below hal)⟩
  have KB_10 : Sl _ := ⟨And.intro (KB_9.out.1.below hal) (KB_9.out.2.below hal)⟩
  have KC_10 : Sl _ := ⟨And.intro (KC_9.out.1.below hal) (KC_9.out.2.below hal)⟩
  have KD_10 : Sl _ := ⟨And.intro (KD_9.out.1.below hal) (KD_9.out.2.below hal)⟩
  have u_10 := u_9.trans (hal.mono u_9.size)
  clear X_9 VA_9 VB_9 VC_9 KA_9 KB_9 KC_9 KD_9 u_9 hal
  have va0 := VA_10.cell 0
  have va1 := VA_10.cell 1
  have va2 := VA_10.cell 2
  have vb0 := VB_10.cell 0
  have vb1 := VB_10.cell 1
  have vb2 := VB_10.cell 2
  simp at va0 va1 va2 vb0 vb1 vb2
  have hc := sameQuo_eq ng1 ln1 ld1 A3 B3 A5 B5 c3 d3 c5 d5 _ KA_10.out.1 KA_10.out.2 KB_10.out.1 KB_10.out.2 HLa1.out HLb1.out
  skip
  have HC : Sl _ := ⟨hc⟩
  clear hc
  go_wp2_with fail
  generalize hw10 : w9.alloc (.cells #[.bool ng2, .slice A9 ln2.length c9, .slice B9 ld2.length d9] 25) = w10 at *
  clear hw10
  generalize w9.heap.size = GVD at *
  refine HC.out.mono ?_; rintro e w11 ⟨hr, hb⟩
  subst hr
  clear HC
  clear va0 va1 va2 vb0 vb1 vb2
  clear KA_10
  clear KB_10
  have X_11 := X_10.below hb X_10.lt
  have VA_11 := VA_10.below hb VA_10.lt
  have VB_11 := VB_10.below hb VB_10.lt
  have VC_11 := VC_10.below hb VC_10.lt
  have VD_11 := VD_10.below hb VD_10.lt
  have KC_11 : Sl _ := ⟨And.intro (KC_10.out.1.below hb) (KC_10.out.2.below hb)⟩
  have KD_11 : Sl _ := ⟨And.intro (KD_10.out.1.below hb) (KD_10.out.2.below hb)⟩
  have u_11 := u_10.trans (hb.mono u_10.size)
  clear X_10 VA_10 VB_10 VC_10 VD_10 KC_10 KD_10 u_10 hb
  have vc0 := VC_11.cell 0
  have vc1 := VC_11.cell 1
  have vc2 := VC_11.cell 2
  have vd0 := VD_11.cell 0
  have vd1 := VD_11.cell 1
  have vd2 := VD_11.cell 2
  simp at vc0 vc1 vc2 vd0 vd1 vd2
  have hc := sameQuo_eq ng2 ln2 ld2 A7 B7 A9 B9 c7 d7 c9 d9 _ KC_11.out.1 KC_11.out.2 KD_11.out.1 KD_11.out.2 HLa2.out HLb2.out
  skip
  have HC : Sl _ := ⟨hc⟩
  clear hc
  go_wp2_with fail
  refine HC.out.mono ?_; rintro e w12 ⟨hr, hb⟩
  subst hr
  clear HC
  clear vc0 vc1 vc2 vd0 vd1 vd2
  clear KC_11
  clear KD_11
  have X_12 := X_11.below hb X_11.lt
  have VA_12 := VA_11.below hb VA_11.lt
  have VB_12 := VB_11.below hb VB_11.lt
  have VC_12 := VC_11.below hb VC_11.lt
  have VD_12 := VD_11.below hb VD_11.lt
  have u_12 := u_11.trans (hb.mono u_11.size)
  clear X_11 VA_11 VB_11 VC_11 VD_11 u_11 hb
  clear HF1 HF2 HLa1 HLa2 HLb1 HLb2
  have x0 := X_12.cell 0
  have x1 := X_12.cell 1
  have x2 := X_12.cell 2
  have x3 := X_12.cell 3
  have x4 := X_12.cell 4
  have x5 := X_12.cell 5
  have x6 := X_12.cell 6
  simp at x0 x1 x2 x3 x4 x5 x6
  have hc := QMul_any p q _ (HP.out.below u_12) (HQ.out.below u_12)
  unfold QV.val qv at hc
  have HC : Sl _ := ⟨hc⟩
  clear hc
  go_wp2_with fail
  refine HC.out.mono ?_; rintro e w13 ⟨hr, hb⟩
  rw [HF3.out] at hr
  obtain ⟨A11, c11, B11, d11, rfl, g1, g2⟩ := hr
  unfold qv
  clear HC
  clear x0 x1 x2 x3 x4 x5 x6
  have hKA : Sl _ := ⟨And.intro g1 g2⟩
  clear g1 g2
  have X_13 := X_12.below hb X_12.lt
  have VA_13 := VA_12.below hb VA_12.lt
  have VB_13 := VB_12.below hb VB_12.lt
  have VC_13 := VC_12.below hb VC_12.lt
  have VD_13 := VD_12.below hb VD_12.lt
  have u_13 := u_12.trans (hb.mono u_12.size)
  clear X_12 VA_12 VB_12 VC_12 VD_12 u_12 hb
  have KA_13 := hKA
  clear hKA
  have X_14 := ((X_13.far (p := ⟨GVA, 0, none⟩) neXVA (.bool ng3)).far (p := ⟨GVA, 1, none⟩) neXVA (.slice A11 ln3.length c11)).far (p := ⟨GVA, 2, none⟩) neXVA (.slice B11 ld3.length d11)
  have VA_14 := VA_13.three (.bool ng3) (.slice A11 ln3.length c11) (.slice B11 ld3.length d11)
  have VB_14 := ((VB_13.far (p := ⟨GVA, 0, none⟩) (Ne.symm neVAVB) (.bool ng3)).far (p := ⟨GVA, 1, none⟩) (Ne.symm neVAVB) (.slice A11 ln3.length c11)).far (p := ⟨GVA, 2, none⟩) (Ne.symm neVAVB) (.slice B11 ld3.length d11)
  have VC_14 := ((VC_13.far (p := ⟨GVA, 0, none⟩) (Ne.symm neVAVC) (.bool ng3)).far (p := ⟨GVA, 1, none⟩) (Ne.symm neVAVC) (.slice A11 ln3.length c11)).far (p := ⟨GVA, 2, none⟩) (Ne.symm neVAVC) (.slice B11 ld3.length d11)
  have VD_14 := ((VD_13.far (p := ⟨GVA, 0, none⟩) (Ne.symm neVAVD) (.bool ng3)).far (p := ⟨GVA, 1, none⟩) (Ne.symm neVAVD) (.slice A11 ln3.length c11)).far (p := ⟨GVA, 2, none⟩) (Ne.symm neVAVD) (.slice B11 ld3.length d11)
  have KA_14 : Sl _ := ⟨And.intro (KA_13.out.1.three VA_13 (nob _) (nos _ _ _) (nos _ _ _) (.bool ng3) (.slice A11 ln3.length c11) (.slice B11 ld3.length d11)) (KA_13.out.2.three VA_13 (nob _) (nos _ _ _) (nos _ _ _) (.bool ng3) (.slice A11 ln3.length c11) (.slice B11 ld3.length d11))⟩
  have u_14 := below_three u_13 neWVA (.bool ng3) (.slice A11 ln3.length c11) (.slice B11 ld3.length d11)
  have Zf0 := VA_13.frozen 0
  have Zf1 := VA_13.frozen 1
  have Zf2 := VA_13.frozen 2
  have Zc0 := VA_13.cell 0
  have Zc1 := VA_13.cell 1
  have Zc2 := VA_13.cell 2
  simp at Zc0 Zc1 Zc2
  clear X_13 VA_13 VB_13 VC_13 VD_13 KA_13 u_13
  have x0 := X_14.cell 0
  have x1 := X_14.cell 1
  have x2 := X_14.cell 2
  have x3 := X_14.cell 3
  have x4 := X_14.cell 4
  have x5 := X_14.cell 5
  have x6 := X_14.cell 6
  simp at x0 x1 x2 x3 x4 x5 x6
  have hc := rQMul_any p q _ (HP.out.below u_14) (HQ.out.below u_14)
  unfold QV.val qv at hc
  have HC : Sl _ := ⟨hc⟩
  clear hc
  go_wp2_with fail
  generalize hw14 : ((w13.setCell ⟨GVA, 0, none⟩ (.bool ng3)).setCell ⟨GVA, 1, none⟩ (.slice A11 ln3.length c11)).setCell ⟨GVA, 2, none⟩ (.slice B11 ld3.length d11) = w14 at *
  clear hw14
  clear Zf0 Zf1 Zf2 Zc0 Zc1 Zc2
  refine HC.out.mono ?_; rintro e w15 ⟨hr, hb⟩
  rw [HF3.out] at hr
  obtain ⟨A13, c13, B13, d13, rfl, g1, g2⟩ := hr
  unfold qv
  clear HC
  clear x0 x1 x2 x3 x4 x5 x6
  have hKB : Sl _ := ⟨And.intro g1 g2⟩
  clear g1 g2
  have X_15 := X_14.below hb X_14.lt
  have VA_15 := VA_14.below hb VA_14.lt
  have VB_15 := VB_14.below hb VB_14.lt
  have VC_15 := VC_14.below hb VC_14.lt
  have VD_15 := VD_14.below hb VD_14.lt
  have KA_15 : Sl _ := ⟨And.intro (KA_14.out.1.below hb) (KA_14.out.2.below hb)⟩
  have u_15 := u_14.trans (hb.mono u_14.size)
  clear X_14 VA_14 VB_14 VC_14 VD_14 KA_14 u_14 hb
  have KB_15 := hKB
  clear hKB
  have X_16 := ((X_15.far (p := ⟨GVB, 0, none⟩) neXVB (.bool ng3)).far (p := ⟨GVB, 1, none⟩) neXVB (.slice A13 ln3.length c13)).far (p := ⟨GVB, 2, none⟩) neXVB (.slice B13 ld3.length d13)
  have VA_16 := ((VA_15.far (p := ⟨GVB, 0, none⟩) neVAVB (.bool ng3)).far (p := ⟨GVB, 1, none⟩) neVAVB (.slice A13 ln3.length c13)).far (p := ⟨GVB, 2, none⟩) neVAVB (.slice B13 ld3.length d13)
  have VB_16 := VB_15.three (.bool ng3) (.slice A13 ln3.length c13) (.slice B13 ld3.length d13)
  have VC_16 := ((VC_15.far (p := ⟨GVB, 0, none⟩) (Ne.symm neVBVC) (.bool ng3)).far (p := ⟨GVB, 1, none⟩) (Ne.symm neVBVC) (.slice A13 ln3.length c13)).far (p := ⟨GVB, 2, none⟩) (Ne.symm neVBVC) (.slice B13 ld3.length d13)
  have VD_16 := ((VD_15.far (p := ⟨GVB, 0, none⟩) (Ne.symm neVBVD) (.bool ng3)).far (p := ⟨GVB, 1, none⟩) (Ne.symm neVBVD) (.slice A13 ln3.length c13)).far (p := ⟨GVB, 2, none⟩) (Ne.symm neVBVD) (.slice B13 ld3.length d13)
  have KA_16 : Sl _ := ⟨And.intro (KA_15.out.1.three VB_15 (nob _) (nos _ _ _) (nos _ _ _) (.bool ng3) (.slice A13 ln3.length c13) (.slice B13 ld3.length d13)) (KA_15.out.2.three VB_15 (nob _) (nos _ _ _) (nos _ _ _) (.bool ng3) (.slice A13 ln3.length c13) (.slice B13 ld3.length d13))⟩
  have KB_16 : Sl _ := ⟨And.intro (KB_15.out.1.three VB_15 (nob _) (nos _ _ _) (nos _ _ _) (.bool ng3) (.slice A13 ln3.length c13) (.slice B13 ld3.length d13)) (KB_15.out.2.three VB_15 (nob _) (nos _ _ _) (nos _ _ _) (.bool ng3) (.slice A13 ln3.length c13) (.slice B13 ld3.length d13))⟩
  have u_16 := below_three u_15 neWVB (.bool ng3) (.slice A13 ln3.length c13) (.slice B13 ld3.length d13)
  have Zf0 := VB_15.frozen 0
  have Zf1 := VB_15.frozen 1
  have Zf2 := VB_15.frozen 2
  have Zc0 := VB_15.cell 0
  have Zc1 := VB_15.cell 1
  have Zc2 := VB_15.cell 2
  simp at Zc0 Zc1 Zc2
  clear X_15 VA_15 VB_15 VC_15 VD_15 KA_15 KB_15 u_15
  have x0 := X_16.cell 0
  have x1 := X_16.cell 1
  have x2 := X_16.cell 2
  have x3 := X_16.cell 3
  have x4 := X_16.cell 4
  have x5 := X_16.cell 5
  have x6 := X_16.cell 6
  simp at x0 x1 x2 x3 x4 x5 x6
  have hc := QDiv_any p q _ (HP.out.below u_16) (HQ.out.below u_16)
  unfold QV.val qv at hc
  have HC : Sl _ := ⟨hc⟩
  clear hc
  go_wp2_with fail
  generalize hw16 : ((w15.setCell ⟨GVB, 0, none⟩ (.bool ng3)).setCell ⟨GVB, 1, none⟩ (.slice A13 ln3.length c13)).setCell ⟨GVB, 2, none⟩ (.slice B13 ld3.length d13) = w16 at *
  clear hw16
  clear Zf0 Zf1 Zf2 Zc0 Zc1 Zc2
  refine HC.out.mono ?_; rintro e w17 ⟨hr, hb⟩
  rw [HF4.out] at hr
  obtain ⟨A15, c15, B15, d15, rfl, g1, g2⟩ := hr
  unfold qv
  clear HC
  clear x0 x1 x2 x3 x4 x5 x6
  have hKC : Sl _ := ⟨And.intro g1 g2⟩
  clear g1 g2
  have X_17 := X_16.below hb X_16.lt
  have VA_17 := VA_16.below hb VA_16.lt
  have VB_17 := VB_16.below hb VB_16.lt
  have VC_17 := VC_16.below hb VC_16.lt
  have VD_17 := VD_16.below hb VD_16.lt
  have KA_17 : Sl _ := ⟨And.intro (KA_16.out.1.below hb) (KA_16.out.2.below hb)⟩
  have KB_17 : Sl _ := ⟨And.intro (KB_16.out.1.below hb) (KB_16.out.2.below hb)⟩
  have u_17 := u_16.trans (hb.mono u_16.size)
  clear X_16 VA_16 VB_16 VC_16 VD_16 KA_16 KB_16 u_16 hb
  have KC_17 := hKC
  clear hKC
  have X_18 := ((X_17.far (p := ⟨GVC, 0, none⟩) neXVC (.bool ng4)).far (p := ⟨GVC, 1, none⟩) neXVC (.slice A15 ln4.length c15)).far (p := ⟨GVC, 2, none⟩) neXVC (.slice B15 ld4.length d15)
  have VA_18 := ((VA_17.far (p := ⟨GVC, 0, none⟩) neVAVC (.bool ng4)).far (p := ⟨GVC, 1, none⟩) neVAVC (.slice A15 ln4.length c15)).far (p := ⟨GVC, 2, none⟩) neVAVC (.slice B15 ld4.length d15)
  have VB_18 := ((VB_17.far (p := ⟨GVC, 0, none⟩) neVBVC (.bool ng4)).far (p := ⟨GVC, 1, none⟩) neVBVC (.slice A15 ln4.length c15)).far (p := ⟨GVC, 2, none⟩) neVBVC (.slice B15 ld4.length d15)
  have VC_18 := VC_17.three (.bool ng4) (.slice A15 ln4.length c15) (.slice B15 ld4.length d15)
  have VD_18 := ((VD_17.far (p := ⟨GVC, 0, none⟩) (Ne.symm neVCVD) (.bool ng4)).far (p := ⟨GVC, 1, none⟩) (Ne.symm neVCVD) (.slice A15 ln4.length c15)).far (p := ⟨GVC, 2, none⟩) (Ne.symm neVCVD) (.slice B15 ld4.length d15)
  have KA_18 : Sl _ := ⟨And.intro (KA_17.out.1.three VC_17 (nob _) (nos _ _ _) (nos _ _ _) (.bool ng4) (.slice A15 ln4.length c15) (.slice B15 ld4.length d15)) (KA_17.out.2.three VC_17 (nob _) (nos _ _ _) (nos _ _ _) (.bool ng4) (.slice A15 ln4.length c15) (.slice B15 ld4.length d15))⟩
  have KB_18 : Sl _ := ⟨And.intro (KB_17.out.1.three VC_17 (nob _) (nos _ _ _) (nos _ _ _) (.bool ng4) (.slice A15 ln4.length c15) (.slice B15 ld4.length d15)) (KB_17.out.2.three VC_17 (nob _) (nos _ _ _) (nos _ _ _) (.bool ng4) (.slice A15 ln4.length c15) (.slice B15 ld4.length d15))⟩
  have KC_18 : Sl _ := ⟨And.intro (KC_17.out.1.three VC_17 (nob _) (nos _ _ _) (nos _ _ _) (.bool ng4) (.slice A15 ln4.length c15) (.slice B15 ld4.length d15)) (KC_17.out.2.three VC_17 (nob _) (nos _ _ _) (nos _ _ _) (.bool ng4) (.slice A15 ln4.length c15) (.slice B15 ld4.length d15))⟩
  have u_18 := below_three u_17 neWVC (.bool ng4) (.slice A15 ln4.length c15) (.slice B15 ld4.length d15)
  have Zf0 := VC_17.frozen 0
  have Zf1 := VC_17.frozen 1
  have Zf2 := VC_17.frozen 2
  have Zc0 := VC_17.cell 0
  have Zc1 := VC_17.cell 1
  have Zc2 := VC_17.cell 2
  simp at Zc0 Zc1 Zc2
  clear X_17 VA_17 VB_17 VC_17 VD_17 KA_17 KB_17 KC_17 u_17
  have x0 := X_18.cell 0
  have x1 := X_18.cell 1
  have x2 := X_18.cell 2
  have x3 := X_18.cell 3
  have x4 := X_18.cell 4
  have x5 := X_18.cell 5
  have x6 := X_18.cell 6
  simp at x0 x1 x2 x3 x4 x5 x6
  have hc := rQDiv_any p q _ (HP.out.below u_18) (HQ.out.below u_18)
  unfold QV.val qv at hc
  have HC : Sl _ := ⟨hc⟩
  clear hc
  go_wp2_with fail
  generalize hw18 : ((w17.setCell ⟨GVC, 0, none⟩ (.bool ng4)).setCell ⟨GVC, 1, none⟩ (.slice A15 ln4.length c15)).setCell ⟨GVC, 2, none⟩ (.slice B15 ld4.length d15) = w18 at *
  clear hw18
  clear Zf0 Zf1 Zf2 Zc0 Zc1 Zc2
  refine HC.out.mono ?_; rintro e w19 ⟨hr, hb⟩
  rw [HF4.out] at hr
  obtain ⟨A17, c17, B17, d17, rfl, g1, g2⟩ := hr
  unfold qv
  clear HC
  clear x0 x1 x2 x3 x4 x5 x6
  have hKD : Sl _ := ⟨And.intro g1 g2⟩
  clear g1 g2
  have X_19 := X_18.below hb X_18.lt
  have VA_19 := VA_18.below hb VA_18.lt
  have VB_19 := VB_18.below hb VB_18.lt
  have VC_19 := VC_18.below hb VC_18.lt
  have VD_19 := VD_18.below hb VD_18.lt
  have KA_19 : Sl _ := ⟨And.intro (KA_18.out.1.below hb) (KA_18.out.2.below hb)⟩
  have KB_19 : Sl _ := ⟨And.intro (KB_18.out.1.below hb) (KB_18.out.2.below hb)⟩
  have KC_19 : Sl _ := ⟨And.intro (KC_18.out.1.below hb) (KC_18.out.2.below hb)⟩
  have u_19 := u_18.trans (hb.mono u_18.size)
  clear X_18 VA_18 VB_18 VC_18 VD_18 KA_18 KB_18 KC_18 u_18 hb
  have KD_19 := hKD
  clear hKD
  have X_20 := ((X_19.far (p := ⟨GVD, 0, none⟩) neXVD (.bool ng4)).far (p := ⟨GVD, 1, none⟩) neXVD (.slice A17 ln4.length c17)).far (p := ⟨GVD, 2, none⟩) neXVD (.slice B17 ld4.length d17)
  have VA_20 := ((VA_19.far (p := ⟨GVD, 0, none⟩) neVAVD (.bool ng4)).far (p := ⟨GVD, 1, none⟩) neVAVD (.slice A17 ln4.length c17)).far (p := ⟨GVD, 2, none⟩) neVAVD (.slice B17 ld4.length d17)
  have VB_20 := ((VB_19.far (p := ⟨GVD, 0, none⟩) neVBVD (.bool ng4)).far (p := ⟨GVD, 1, none⟩) neVBVD (.slice A17 ln4.length c17)).far (p := ⟨GVD, 2, none⟩) neVBVD (.slice B17 ld4.length d17)
  have VC_20 := ((VC_19.far (p := ⟨GVD, 0, none⟩) neVCVD (.bool ng4)).far (p := ⟨GVD, 1, none⟩) neVCVD (.slice A17 ln4.length c17)).far (p := ⟨GVD, 2, none⟩) neVCVD (.slice B17 ld4.length d17)
  have VD_20 := VD_19.three (.bool ng4) (.slice A17 ln4.length c17) (.slice B17 ld4.length d17)
  have KA_20 : Sl _ := ⟨And.intro (KA_19.out.1.three VD_19 (nob _) (nos _ _ _) (nos _ _ _) (.bool ng4) (.slice A17 ln4.length c17) (.slice B17 ld4.length d17)) (KA_19.out.2.three VD_19 (nob _) (nos _ _ _) (nos _ _ _) (.bool ng4) (.slice A17 ln4.length c17) (.slice B17 ld4.length d17))⟩
  have KB_20 : Sl _ := ⟨And.intro (KB_19.out.1.three VD_19 (nob _) (nos _ _ _) (nos _ _ _) (.bool ng4) (.slice A17 ln4.length c17) (.slice B17 ld4.length d17)) (KB_19.out.2.three VD_19 (nob _) (nos _ _ _) (nos _ _ _) (.bool ng4) (.slice A17 ln4.length c17) (.slice B17 ld4.length d17))⟩
  have KC_20 : Sl _ := ⟨And.intro (KC_19.out.1.three VD_19 (nob _) (nos _ _ _) (nos _ _ _) (.bool ng4) (.slice A17 ln4.length c17) (.slice B17 ld4.length d17)) (KC_19.out.2.three VD_19 (nob _) (nos _ _ _) (nos _ _ _) (.bool ng4) (.slice A17 ln4.length c17) (.slice B17 ld4.length d17))⟩
  have KD_20 : Sl _ := ⟨And.intro (KD_19.out.1.three VD_19 (nob _) (nos _ _ _) (nos _ _ _) (.bool ng4) (.slice A17 ln4.length c17) (.slice B17 ld4.length d17)) (KD_19.out.2.three VD_19 (nob _) (nos _ _ _) (nos _ _ _) (.bool ng4) (.slice A17 ln4.length c17) (.slice B17 ld4.length d17))⟩
  have u_20 := below_three u_19 neWVD (.bool ng4) (.slice A17 ln4.length c17) (.slice B17 ld4.length d17)
  have Zf0 := VD_19.frozen 0
  have Zf1 := VD_19.frozen 1
  have Zf2 := VD_19.frozen 2
  have Zc0 := VD_19.cell 0
  have Zc1 := VD_19.cell 1
  have Zc2 := VD_19.cell 2
  simp at Zc0 Zc1 Zc2
  clear X_19 VA_19 VB_19 VC_19 VD_19 KA_19 KB_19 KC_19 KD_19 u_19
  have va0 := VA_20.cell 0
  have va1 := VA_20.cell 1
  have va2 := VA_20.cell 2
  have vb0 := VB_20.cell 0
  have vb1 := VB_20.cell 1
  have vb2 := VB_20.cell 2
  simp at va0 va1 va2 vb0 vb1 vb2
  have hc := sameQuo_eq ng3 ln3 ld3 A11 B11 A13 B13 c11 d11 c13 d13 _ KA_20.out.1 KA_20.out.2 KB_20.out.1 KB_20.out.2 HLa3.out HLb3.out
  skip
  have HC : Sl _ := ⟨hc⟩
  clear hc
  go_wp2_with fail
  generalize hw20 : ((w19.setCell ⟨GVD, 0, none⟩ (.bool ng4)).setCell ⟨GVD, 1, none⟩ (.slice A17 ln4.length c17)).setCell ⟨GVD, 2, none⟩ (.slice B17 ld4.length d17) = w20 at *
  clear hw20
  clear Zf0 Zf1 Zf2 Zc0 Zc1 Zc2
  refine HC.out.mono ?_; rintro e w21 ⟨hr, hb⟩
  subst hr
  clear HC
  clear va0 va1 va2 vb0 vb1 vb2
  clear KA_20
  clear KB_20
  have X_21 := X_20.below hb X_20.lt
  have VA_21 := VA_20.below hb VA_20.lt
  have VB_21 := VB_20.below hb VB_20.lt
  have VC_21 := VC_20.below hb VC_20.lt
  have VD_21 := VD_20.below hb VD_20.lt
  have KC_21 : Sl _ := ⟨And.intro (KC_20.out.1.below hb) (KC_20.out.2.below hb)⟩
  have KD_21 : Sl _ := ⟨And.intro (KD_20.out.1.below hb) (KD_20.out.2.below hb)⟩
  have u_21 := u_20.trans (hb.mono u_20.size)
  clear X_20 VA_20 VB_20 VC_20 VD_20 KC_20 KD_20 u_20 hb
  have vc0 := VC_21.cell 0
  have vc1 := VC_21.cell 1
  have vc2 := VC_21.cell 2
  have vd0 := VD_21.cell 0
  have vd1 := VD_21.cell 1
  have vd2 := VD_21.cell 2
  simp at vc0 vc1 vc2 vd0 vd1 vd2
  have hc := sameQuo_eq ng4 ln4 ld4 A15 B15 A17 B17 c15 d15 c17 d17 _ KC_21.out.1 KC_21.out.2 KD_21.out.1 KD_21.out.2 HLa4.out HLb4.out
  skip
  have HC : Sl _ := ⟨hc⟩
  clear hc
  go_wp2_with fail
  refine HC.out.mono ?_; rintro e w22 ⟨hr, hb⟩
  subst hr
  clear HC
  clear vc0 vc1 vc2 vd0 vd1 vd2
  clear KC_21
  clear KD_21
  have X_22 := X_21.below hb X_21.lt
  have VA_22 := VA_21.below hb VA_21.lt
  have VB_22 := VB_21.below hb VB_21.lt
  have VC_22 := VC_21.below hb VC_21.lt
  have VD_22 := VD_21.below hb VD_21.lt
  have u_22 := u_21.trans (hb.mono u_21.size)
  clear X_21 VA_21 VB_21 VC_21 VD_21 u_21 hb
  clear HF3 HF4 HLa3 HLa4 HLb3 HLb4 VA_22 VB_22 VC_22 VD_22
  have x0 := X_22.cell 0
  have x1 := X_22.cell 1
  have x2 := X_22.cell 2
  have x3 := X_22.cell 3
  have x4 := X_22.cell 4
  have x5 := X_22.cell 5
  have x6 := X_22.cell 6
  simp at x0 x1 x2 x3 x4 x5 x6
  have hc := HCW.out _ u_22
  skip
  have HC : Sl _ := ⟨hc⟩
  clear hc
  go_wp2_with fail
  refine HC.out.mono ?_; rintro e w23 ⟨hr, hb⟩
  subst hr
  clear HC
  clear x0 x1 x2 x3 x4 x5 x6
  have X_23 := X_22.below hb X_22.lt
  have u_23 := u_22.trans (hb.mono u_22.size)
  clear X_22 u_22 hb
  have x0 := X_23.cell 0
  have x1 := X_23.cell 1
  have x2 := X_23.cell 2
  have x3 := X_23.cell 3
  have x4 := X_23.cell 4
  have x5 := X_23.cell 5
  have x6 := X_23.cell 6
  simp at x0 x1 x2 x3 x4 x5 x6
  have hc := HCR.out _ u_23
  skip
  have HC : Sl _ := ⟨hc⟩
  clear hc
  go_wp2_with fail
  refine HC.out.mono ?_; rintro e w24 ⟨hr, hb⟩
  subst hr
  clear HC
  clear x0 x1 x2 x3 x4 x5 x6
  have X_24 := X_23.below hb X_23.lt
  have u_24 := u_23.trans (hb.mono u_23.size)
  clear X_23 u_23 hb
  clear HCW HCR
  have x0 := X_24.cell 0
  have x1 := X_24.cell 1
  have x2 := X_24.cell 2
  have x3 := X_24.cell 3
  have x4 := X_24.cell 4
  have x5 := X_24.cell 5
  have x6 := X_24.cell 6
  simp at x0 x1 x2 x3 x4 x5 x6
  have hc := QFloor_any p _ (HP.out.below u_24)
  unfold QV.val qv at hc
  have HC : Sl _ := ⟨hc⟩
  clear hc
  go_wp2_with fail
  refine HC.out.mono ?_; rintro e w25 ⟨hr, hb⟩
  rw [HF5.out] at hr
  obtain ⟨A20, c20, rfl, g1⟩ := hr
  clear HC
  clear x0 x1 x2 x3 x4 x5 x6
  have hNA : Sl _ := ⟨And.intro g1 g1⟩
  clear g1
  have X_25 := X_24.below hb X_24.lt
  have u_25 := u_24.trans (hb.mono u_24.size)
  clear X_24 u_24 hb
  have NA_25 := hNA
  clear hNA
  have x0 := X_25.cell 0
  have x1 := X_25.cell 1
  have x2 := X_25.cell 2
  have x3 := X_25.cell 3
  have x4 := X_25.cell 4
  have x5 := X_25.cell 5
  have x6 := X_25.cell 6
  simp at x0 x1 x2 x3 x4 x5 x6
  have hc := rQFloor_any p _ (HP.out.below u_25)
  unfold QV.val qv at hc
  have HC : Sl _ := ⟨hc⟩
  clear hc
  go_wp2_with fail
  refine HC.out.mono ?_; rintro e w26 ⟨hr, hb⟩
  rw [HF5.out] at hr
  obtain ⟨A21, c21, rfl, g1⟩ := hr
  clear HC
  clear x0 x1 x2 x3 x4 x5 x6
  have hNB : Sl _ := ⟨And.intro g1 g1⟩
  clear g1
  have X_26 := X_25.below hb X_25.lt
  have NA_26 : Sl _ := ⟨And.intro (NA_25.out.1.below hb) (NA_25.out.2.below hb)⟩
  have u_26 := u_25.trans (hb.mono u_25.size)
  clear X_25 NA_25 u_25 hb
  have NB_26 := hNB
  clear hNB
  have hS : Sl (∀ w' : World, RowKit.Below w26.heap.size w26 w' → w'.cell? ⟨w.heap.size, 0, none⟩ = some (.bool p.neg) ∧ w'.cell? ⟨w.heap.size, 1, none⟩ = some (.slice p.A p.n p.c) ∧ w'.cell? ⟨w.heap.size, 2, none⟩ = some (.slice p.B p.m p.d)) := ⟨fun w' h => by
    have e := X_26.below h X_26.lt
    exact ⟨e.cell 0, e.cell 1, e.cell 2⟩⟩
  have HU : Sl _ := ⟨u_26⟩
  obtain ⟨x0, x1, x2⟩ := hS.out w26 (Below.refl _ _)
  have hd1 : RowKit.Below w26.heap.size w26 w26.drew := below_drewN (Below.refl _ _) 1
  have hPW : Sl (∀ W : World, RowKit.Below w26.heap.size w26 W → _) := ⟨fun W h => HPW.out W (HU.out.trans (h.mono HU.out.size))⟩
  have hPV : Sl (∀ W : World, RowKit.Below w26.heap.size w26 W → _) := ⟨fun W h => HPV.out W (HU.out.trans (h.mono HU.out.size))⟩
  have hSM : Sl (∀ W : World, RowKit.Below w26.heap.size w26 W → _) := ⟨fun W h => same_eq A20 A21 c20 c21 ln5 W (NA_26.out.1.below h) (NB_26.out.1.below h) HLa5.out⟩
  have hAK : Sl (∀ W : World, RowKit.Below w26.heap.size w26 W → _) := ⟨fun W h => HAW W (HT.out.below (HU.out.trans (h.mono HU.out.size)))⟩
  clear X_26 u_26 HPW HPV NA_26 NB_26
  go_wp2_with fail
  go_region_held3 (fun w' => w'.cell? ⟨w.heap.size, 0, none⟩ = some (.bool p.neg) ∧ w'.cell? ⟨w.heap.size, 1, none⟩ = some (.slice p.A p.n p.c) ∧ w'.cell? ⟨w.heap.size, 2, none⟩ = some (.slice p.B p.m p.d))
    (first | (refine hS.out _ ?_; assumption) | go_keep)
    (first
      | (go_at_call 21; (with_reducible refine (hPW.out _ hd1).mono ?_); rintro e wa ⟨rfl, ha⟩; have ha' := hd1.trans (ha.mono hd1.size))
      | (go_at_call 22; (with_reducible refine (hPV.out wa ha').mono ?_); rintro e wb ⟨rfl, hb⟩; have hb' := ha'.trans (hb.mono ha'.size))
      | (go_at_call 23; (with_reducible refine (hSM.out wb hb').mono ?_); rintro e wc ⟨rfl, hc⟩; have hc' := hb'.trans (hc.mono hb'.size))
      | (go_at_call 7; (with_reducible refine (hAK.out wc hc').mono ?_); rintro e we ⟨rfl, he⟩; have he' := hc'.trans (he.mono hc'.size))
      | fail)
  all_goals (
    have uu := HU.out.trans (he'.mono HU.out.size)
    go_wp2_with fail
    go_ret
    exact ⟨by first | rfl | simp, uu⟩)

set_option maxHeartbeats 1600000 in
set_option maxRecDepth 100000 in
theorem quos_any (HAW : Awake) (p q : QV) (k : Int) (hk : -9223372036854775808 ≤ k ∧ k < 9223372036854775808) (w : World) (hp : p.ok w) (hq : q.ok w) (ht : Tab10 w) :
    Calls Tryz.prog 3 #[.agg #[.bool p.neg, .slice p.A p.n p.c, .slice p.B p.m p.d, .bool q.neg, .slice q.A q.n q.c, .slice q.B q.m q.d, .int .i64 k]] w fun e w' => e = .returned (.bool true) ∧ Below w.heap.size w w' := by
  by_cases h : muchS p.n p.m = false ∧ muchS q.n q.m = false
  · exact quos_main HAW p q k w ⟨hp⟩ ⟨hq⟩ ⟨ht⟩ ⟨h.1⟩ ⟨h.2⟩
  · have HT : Sl _ := ⟨ht⟩
    have HMU1 : Sl _ := ⟨fun (W : World) (h : Below w.heap.size w W) => much_any p.neg p.A p.B p.n p.m p.c p.d p.la p.lb W (hp.num.below h) (hp.den.below h)⟩
    have HMU2 : Sl _ := ⟨fun (W : World) (h : Below w.heap.size w W) => much_any q.neg q.A q.B q.n q.m q.c q.d q.la q.lb W (hq.num.below h) (hq.den.below h)⟩
    have hu0 : Below w.heap.size w (w.alloc (.cells #[.bool p.neg, .slice p.A p.n p.c, .slice p.B p.m p.d, .bool q.neg, .slice q.A q.n q.c, .slice q.B q.m q.d, .int .i64 k] 27)) := (Below.refl _ _).alloc (Nat.le_refl _) _
    have hbl0 := Blk.new w 27 #[.bool p.neg, .slice p.A p.n p.c, .slice p.B p.m p.d, .bool q.neg, .slice q.A q.n q.c, .slice q.B q.m q.d, .int .i64 k]
    have hcs : muchS p.n p.m = true ∨ muchS p.n p.m = false ∧ muchS q.n q.m = true := by
      revert h; cases muchS p.n p.m <;> cases muchS q.n q.m <;> simp
    clear h hp hq ht
    generalize muchS p.n p.m = M1 at *
    generalize muchS q.n q.m = M2 at *
    rcases hcs with rfl | ⟨rfl, rfl⟩
    · go_enter Tryz.func3, Tryz.ntmps3
      go_wp2_with fail
      generalize w.alloc (.cells #[.bool p.neg, .slice p.A p.n p.c, .slice p.B p.m p.d, .bool q.neg, .slice q.A q.n q.c, .slice q.B q.m q.d, .int .i64 k] 27) = w0 at *
      refine (HMU1.out w0 hu0).mono ?_; rintro e w1 ⟨rfl, hb1⟩
      have u1 := hu0.trans (hb1.mono hu0.size)
      go_wp2_with fail
      refine (HAW w1 (HT.out.below u1)).mono ?_; rintro e w2 ⟨rfl, hb2⟩
      go_wp2_with fail
      go_ret
      exact ⟨rfl, u1.trans (hb2.mono u1.size)⟩
    · go_enter Tryz.func3, Tryz.ntmps3
      go_wp2_with fail
      generalize w.alloc (.cells #[.bool p.neg, .slice p.A p.n p.c, .slice p.B p.m p.d, .bool q.neg, .slice q.A q.n q.c, .slice q.B q.m q.d, .int .i64 k] 27) = w0 at *
      refine (HMU1.out w0 hu0).mono ?_; rintro e w1 ⟨rfl, hb1⟩
      have u1 := hu0.trans (hb1.mono hu0.size)
      have hbl1 := hbl0.below hb1 hbl0.lt
      have a3 := hbl1.cell 3
      have a4 := hbl1.cell 4
      have a5 := hbl1.cell 5
      simp at a3 a4 a5
      go_wp2_with fail
      refine (HMU2.out w1 u1).mono ?_; rintro e w2 ⟨rfl, hb2⟩
      have u2 := u1.trans (hb2.mono u1.size)
      clear a3 a4 a5
      go_wp2_with fail
      refine (HAW w2 (HT.out.below u2)).mono ?_; rintro e w3 ⟨rfl, hb3⟩
      go_wp2_with fail
      go_ret
      exact ⟨rfl, u2.trans (hb3.mono u2.size)⟩
end Go.Proofs.YtgjbaamhpapeeaaGreatDoor
