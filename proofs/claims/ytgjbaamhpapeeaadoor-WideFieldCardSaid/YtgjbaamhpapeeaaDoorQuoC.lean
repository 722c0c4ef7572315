/- The law's much; the law WideShares returns true, where awake does. -/
import Derived.Test.YtgjbaamhpapeeaaDoorQuoB
import Derived.Test.YtgjbaamhpapeeaaDoorLawB
import Derived.Test.YtgjbaamhpapeeaaDoorLawI
namespace Go.Proofs.YtgjbaamhpapeeaaDoor
open Go.RowKit
set_option linter.unusedVariables false
set_option linter.unusedSimpArgs false

def muchS (n m : Nat) : Bool := decide (3 < max n m) && decide (max n m ≤ 512) || decide (520 < max n m)
theorem muchS_false {n m : Nat} (h : muchS n m = false) : n ≤ 520 ∧ m ≤ 520 := by
  simp [muchS] at h; omega
set_option maxHeartbeats 800000 in
set_option maxRecDepth 100000 in
theorem much_any (ng : Bool) (A B : Option Addr) (n m c d : Nat) (la lb : List Nat) (w : World) (ha : Arg w A n c la) (hb : Arg w B m d lb) :
    Calls Tryd.prog 18 #[.agg #[.bool ng, .slice A n c, .slice B m d]] w fun e w' => e = .returned (.bool (muchS n m)) ∧ Below w.heap.size w w' := by
  have hu : Below w.heap.size w (w.alloc (.cells #[.bool ng, .slice A n c, .slice B m d] 32)) := (Below.refl _ _).alloc (Nat.le_refl _) _
  have h1 := ha.2
  have h2 := hb.2
  unfold maxLen at h1 h2
  obtain ⟨p1, p2⟩ := h1
  obtain ⟨p3, p4⟩ := h2
  obtain ⟨M, hM⟩ : ∃ M : Nat, M = max n m := ⟨_, rfl⟩
  have hmax : max (n : Int) (m : Int) = (M : Int) := by omega
  have hM2 : M ≤ 9223372036854775807 := by omega
  have e : muchS n m = (decide (3 < M) && decide (M ≤ 512) || decide (520 < M)) := by rw [muchS, ← hM]
  rw [e]
  clear ha hb e hM
  have hc : M ≤ 3 ∨ (3 < M ∧ M ≤ 512) ∨ (512 < M ∧ M ≤ 520) ∨ 520 < M := by omega
  rcases hc with h | ⟨h, h'⟩ | ⟨h, h'⟩ | h
  · rw [show (decide (3 < M) && decide (M ≤ 512) || decide (520 < M)) = false by simp; omega]
    go_enter Tryd.func18, Tryd.ntmps18
    go_wp2_with fail
    go_ret
    exact ⟨by first | rfl | (simp; try omega), hu⟩
  · rw [show (decide (3 < M) && decide (M ≤ 512) || decide (520 < M)) = true by simp; omega]
    go_enter Tryd.func18, Tryd.ntmps18
    go_wp2_with fail
    go_ret
    exact ⟨by first | rfl | (simp; try omega), hu⟩
  · rw [show (decide (3 < M) && decide (M ≤ 512) || decide (520 < M)) = false by simp; omega]
    go_enter Tryd.func18, Tryd.ntmps18
    go_wp2_with fail
    go_ret
    exact ⟨by first | rfl | (simp; try omega), hu⟩
  · rw [show (decide (3 < M) && decide (M ≤ 512) || decide (520 < M)) = true by simp; omega]
    go_enter Tryd.func18, Tryd.ntmps18
    go_wp2_with fail
    go_ret
    exact ⟨by first | rfl | (simp; try omega), hu⟩

theorem RatioRes_form (neg : Bool) (la lb : List Nat) : ∃ ng ln ld er, ln.length ≤ 512 ∧ ld.length ≤ 512 ∧ ∀ e w, RatioRes neg la lb e w = QRes ng ln ld er e w := by
  unfold RatioRes
  by_cases h1 : badE [la, lb] ≠ 0
  · exact ⟨false, [], [], badE [la, lb], by simp, by simp, fun e w => by rw [if_pos h1]⟩
  · by_cases h2 : valOf lb = 0
    · exact ⟨false, [], [], 4, by simp, by simp, fun e w => by rw [if_neg h1, if_pos h2]⟩
    · by_cases h3 : (limbs (valOf la / Nat.gcd (valOf la) (valOf lb))).length ≤ 512 ∧ (limbs (valOf lb / Nat.gcd (valOf la) (valOf lb))).length ≤ 512
      · refine ⟨neg && decide (valOf la ≠ 0), limbs (valOf la / Nat.gcd (valOf la) (valOf lb)), limbs (valOf lb / Nat.gcd (valOf la) (valOf lb)), 0, h3.1, h3.2, fun e w => ?_⟩
        rw [if_neg h1, if_neg h2]
        unfold LowRes lowS
        rw [if_pos h3]
      · refine ⟨false, [], [], 3, by simp, by simp, fun e w => ?_⟩
        rw [if_neg h1, if_neg h2]
        unfold LowRes lowS
        rw [if_neg h3]
theorem QPowRes_form (p : QV) (k : Int) : ∃ ng ln ld er, ln.length ≤ 512 ∧ ld.length ≤ 512 ∧ ∀ e w, QPowRes p k e w = QRes ng ln ld er e w := by
  unfold QPowRes
  by_cases h1 : checkQ (fun _ => p) 1 ≠ 0
  · exact ⟨false, [], [], checkQ (fun _ => p) 1, by simp, by simp, fun e w => by rw [if_pos h1]⟩
  · by_cases h2 : k < -2000 ∨ 2000 < k
    · exact ⟨false, [], [], 2, by simp, by simp, fun e w => by rw [if_neg h1, if_pos h2]⟩
    · by_cases h3 : k < 0 ∧ valOf p.la = 0
      · exact ⟨false, [], [], 4, by simp, by simp, fun e w => by rw [if_neg h1, if_neg h2, if_pos h3]⟩
      · by_cases h4 : (limbs ((if k < 0 then valOf p.lb else valOf p.la) ^ k.natAbs)).length ≤ 512 ∧ (limbs ((if k < 0 then valOf p.la else valOf p.lb) ^ k.natAbs)).length ≤ 512
        · exact ⟨_, _, _, 0, h4.1, h4.2, fun e w => by rw [if_neg h1, if_neg h2, if_neg h3, if_pos h4]⟩
        · exact ⟨false, [], [], 3, by simp, by simp, fun e w => by rw [if_neg h1, if_neg h2, if_neg h3, if_neg h4]⟩
/-- two fractions that came out alike -/
theorem sameQuo_eq (ng : Bool) (ln ld : List Nat) (A B C D : Option Addr) (a b c d : Nat) (w : World) (h1 : Arg w A ln.length a ln) (h2 : Arg w B ld.length b ld) (h3 : Arg w C ln.length c ln) (h4 : Arg w D ld.length d ld) (l1 : ln.length ≤ 512) (l2 : ld.length ≤ 512) :
    Calls Tryd.prog 23 #[.agg #[.bool ng, .slice A ln.length a, .slice B ld.length b], .agg #[.bool ng, .slice C ln.length c, .slice D ld.length d]] w fun e w' => e = .returned (.bool true) ∧ Below w.heap.size w w' :=
  sameQuo_any ⟨ng, A, ln.length, a, B, ld.length, b, ln, ld⟩ ⟨ng, C, ln.length, c, D, ld.length, d, ln, ld⟩ w ⟨h1, h2⟩ ⟨h3, h4⟩ (show ln.length ≤ 4294967296 by omega) (show ld.length ≤ 4294967296 by omega) (show ln.length ≤ 4294967296 by omega) (show ld.length ≤ 4294967296 by omega) rfl rfl rfl

set_option maxHeartbeats 3200000 in
set_option maxRecDepth 100000 in
theorem shares_main (HAW : Awake) (A : Option Addr) (n c : Nat) (la : List Nat) (B : Option Addr) (m d : Nat) (lb : List Nat) (p : QV) (v3 v4 v5 : Value) (k : Int) (w : World) (HA : Sl (Arg w A n c la)) (HB : Sl (Arg w B m d lb)) (HP : Sl (p.ok w)) (HT : Sl (Tab10 w))
    (HM1 : Sl (muchS n m = false)) (HM2 : Sl (muchS p.n p.m = false)) (hk : -12 ≤ k ∧ k ≤ 12 ∨ 2000 < k ∧ k ≤ 9223372036854775807 ∨ k < -2000 ∧ -9223372036854775808 ≤ k) :
    Calls Tryd.prog 4 #[.slice A n c, .slice B m d, .agg #[.bool p.neg, .slice p.A p.n p.c, .slice p.B p.m p.d, v3, v4, v5, .int .i64 k]] w fun e w' => e = .returned (.bool true) ∧ Below w.heap.size w w' := by
  have HK : Sl (-9223372036854775808 ≤ k ∧ k ≤ 9223372036854775807) := ⟨by omega⟩
  have HMU1 : Sl _ := ⟨fun (W : World) (h : Below w.heap.size w W) => much_any false A B n m c d la lb W (HA.out.below h) (HB.out.below h)⟩
  have HMU2 : Sl _ := ⟨fun (W : World) (h : Below w.heap.size w W) => much_any p.neg p.A p.B p.n p.m p.c p.d p.la p.lb W (HP.out.num.below h) (HP.out.den.below h)⟩
  rw [HM1.out] at HMU1
  rw [HM2.out] at HMU2
  have hu0 : Below w.heap.size w (w.alloc (.cells #[.bool p.neg, .slice p.A p.n p.c, .slice p.B p.m p.d, v3, v4, v5, .int .i64 k] 34)) := (Below.refl _ _).alloc (Nat.le_refl _) _
  have hbl0 := Blk.new w 34 #[.bool p.neg, .slice p.A p.n p.c, .slice p.B p.m p.d, v3, v4, v5, .int .i64 k]
  rcases hk with ⟨hk1, hk2⟩ | ⟨hk1, hk2⟩ | ⟨hk1, hk2⟩
  all_goals (
    go_enter Tryd.func4, Tryd.ntmps4
    go_wp2_with fail
    generalize w.alloc (.cells #[.bool p.neg, .slice p.A p.n p.c, .slice p.B p.m p.d, v3, v4, v5, .int .i64 k] 34) = w0 at *
    refine (HMU1.out w0 hu0).mono ?_; rintro e w1 ⟨rfl, hb1⟩
    have u1 := hu0.trans (hb1.mono hu0.size)
    have hbl1 := hbl0.below hb1 hbl0.lt
    have a0 := hbl1.cell 0
    have a1 := hbl1.cell 1
    have a2 := hbl1.cell 2
    have a6 := hbl1.cell 6
    simp at a0 a1 a2 a6
    clear hb1 hbl0 hu0
    go_wp2_with fail
    refine (HMU2.out w1 u1).mono ?_; rintro e w2 ⟨rfl, hb2⟩
    have u2 := u1.trans (hb2.mono u1.size)
    have hbl2 := hbl1.below hb2 hbl1.lt
    have a0 := hbl2.cell 0
    have a1 := hbl2.cell 1
    have a2 := hbl2.cell 2
    have a6 := hbl2.cell 6
    simp at a0 a1 a2 a6
    clear hb2 hbl1 u1
    obtain ⟨ng1, ln1, ld1, er1, l11, l12, F1⟩ := RatioRes_form p.neg la lb
    obtain ⟨ng2, ln2, ld2, er2, l21, l22, F2⟩ := QPowRes_form p k
    have HF1 : Sl _ := ⟨F1⟩
    have HF2 : Sl _ := ⟨F2⟩
    have HL11 : Sl _ := ⟨l11⟩
    have HL12 : Sl _ := ⟨l12⟩
    have HL21 : Sl _ := ⟨l21⟩
    have HL22 : Sl _ := ⟨l22⟩
    have HR1 : Sl _ := ⟨wRatio_any p.neg A B n m c d la lb w2 (HA.out.below u2) (HB.out.below u2)⟩
    clear F1 F2 l11 l12 l21 l22
    go_wp2_with fail
    refine HR1.out.mono ?_; rintro e w3 ⟨hr, hb3⟩
    rw [HF1.out] at hr
    obtain ⟨A3, c3, B3, d3, rfl, g1, g2⟩ := hr
    unfold qv
    have u3 := u2.trans (hb3.mono u2.size)
    have hbl3 := hbl2.below hb3 hbl2.lt
    have K1 : Sl _ := ⟨And.intro g1 g2⟩
    clear g1 g2 hb3 hbl2 HR1 u2 a0 a1 a2 a6
    have hal3 : Below w3.heap.size w3 (w3.alloc (.cells #[.bool ng1, .slice A3 ln1.length c3, .slice B3 ld1.length d3] 32)) := (Below.refl _ _).alloc (Nat.le_refl _) _
    have hnb3 := Blk.new w3 32 #[.bool ng1, .slice A3 ln1.length c3, .slice B3 ld1.length d3]
    have hbl4 := hbl3.below hal3 hbl3.lt
    have u4 := u3.trans (hal3.mono u3.size)
    have K14 : Sl _ := ⟨And.intro (K1.out.1.below hal3) (K1.out.2.below hal3)⟩
    have a0 := hbl4.cell 0
    have a1 := hbl4.cell 1
    have a2 := hbl4.cell 2
    have a6 := hbl4.cell 6
    simp at a0 a1 a2 a6
    have HR2 : Sl _ := ⟨rRatio_any p.neg A B n m c d la lb _ (HA.out.below u4) (HB.out.below u4)⟩
    clear hal3 u3 hbl3 K1
    go_wp2_with fail
    generalize hw4 : w3.alloc (.cells #[.bool ng1, .slice A3 ln1.length c3, .slice B3 ld1.length d3] 32) = w4 at *
    clear hw4
    generalize w3.heap.size = G3 at *
    refine HR2.out.mono ?_; rintro e w5 ⟨hr, hb5⟩
    rw [HF1.out] at hr
    obtain ⟨A5, c5, B5, d5, rfl, g1, g2⟩ := hr
    unfold qv
    have u5 := u4.trans (hb5.mono u4.size)
    have hbl5 := hbl4.below hb5 hbl4.lt
    have hnb5 := hnb3.below hb5 hnb3.lt
    have K15 : Sl _ := ⟨And.intro (K14.out.1.below hb5) (K14.out.2.below hb5)⟩
    have K2 : Sl _ := ⟨And.intro g1 g2⟩
    clear g1 g2 hb5 hbl4 HR2 u4 a0 a1 a2 a6 hnb3 K14
    have hal5 : Below w5.heap.size w5 (w5.alloc (.cells #[.bool ng1, .slice A5 ln1.length c5, .slice B5 ld1.length d5] 32)) := (Below.refl _ _).alloc (Nat.le_refl _) _
    have hmb6 := Blk.new w5 32 #[.bool ng1, .slice A5 ln1.length c5, .slice B5 ld1.length d5]
    have hbl6 := hbl5.below hal5 hbl5.lt
    have hnb6 := hnb5.below hal5 hnb5.lt
    have u6 := u5.trans (hal5.mono u5.size)
    have K16 : Sl _ := ⟨And.intro (K15.out.1.below hal5) (K15.out.2.below hal5)⟩
    have K26 : Sl _ := ⟨And.intro (K2.out.1.below hal5) (K2.out.2.below hal5)⟩
    have a0 := hbl6.cell 0
    have a1 := hbl6.cell 1
    have a2 := hbl6.cell 2
    have a6 := hbl6.cell 6
    simp at a0 a1 a2 a6
    have hqp := QPow_any p k _ (HP.out.below u6) HK.out.1 HK.out.2
    unfold QV.val qv at hqp
    have HQ1 : Sl _ := ⟨hqp⟩
    clear hal5 u5 hbl5 hnb5 K15 K2 hqp
    go_wp2_with fail
    generalize hw6 : w5.alloc (.cells #[.bool ng1, .slice A5 ln1.length c5, .slice B5 ld1.length d5] 32) = w6 at *
    clear hw6
    generalize w5.heap.size = G5 at *
    refine HQ1.out.mono ?_; rintro e w7 ⟨hr, hb7⟩
    rw [HF2.out] at hr
    obtain ⟨A7, c7, B7, d7, rfl, g1, g2⟩ := hr
    unfold qv
    have u7 := u6.trans (hb7.mono u6.size)
    have hbl7 := hbl6.below hb7 hbl6.lt
    have hnb7 := hnb6.below hb7 hnb6.lt
    have hmb7 := hmb6.below hb7 hmb6.lt
    have K17 : Sl _ := ⟨And.intro (K16.out.1.below hb7) (K16.out.2.below hb7)⟩
    have K27 : Sl _ := ⟨And.intro (K26.out.1.below hb7) (K26.out.2.below hb7)⟩
    have K3 : Sl _ := ⟨And.intro g1 g2⟩
    clear g1 g2 hb7 hbl6 HQ1 u6 a0 a1 a2 a6 hnb6 hmb6 K16 K26
    have hal7 : Below w7.heap.size w7 (w7.alloc (.cells #[.bool ng2, .slice A7 ln2.length c7, .slice B7 ld2.length d7] 32)) := (Below.refl _ _).alloc (Nat.le_refl _) _
    have hkb8 := Blk.new w7 32 #[.bool ng2, .slice A7 ln2.length c7, .slice B7 ld2.length d7]
    have hbl8 := hbl7.below hal7 hbl7.lt
    have hnb8 := hnb7.below hal7 hnb7.lt
    have hmb8 := hmb7.below hal7 hmb7.lt
    have u8 := u7.trans (hal7.mono u7.size)
    have K18 : Sl _ := ⟨And.intro (K17.out.1.below hal7) (K17.out.2.below hal7)⟩
    have K28 : Sl _ := ⟨And.intro (K27.out.1.below hal7) (K27.out.2.below hal7)⟩
    have K38 : Sl _ := ⟨And.intro (K3.out.1.below hal7) (K3.out.2.below hal7)⟩
    have a0 := hbl8.cell 0
    have a1 := hbl8.cell 1
    have a2 := hbl8.cell 2
    have a6 := hbl8.cell 6
    simp at a0 a1 a2 a6
    have hqp := rQPow_any p k _ (HP.out.below u8) HK.out.1 HK.out.2
    unfold QV.val qv at hqp
    have HQ2 : Sl _ := ⟨hqp⟩
    clear hal7 u7 hbl7 hnb7 hmb7 K17 K27 K3 hqp
    go_wp2_with fail
    generalize hw8 : w7.alloc (.cells #[.bool ng2, .slice A7 ln2.length c7, .slice B7 ld2.length d7] 32) = w8 at *
    clear hw8
    generalize w7.heap.size = G7 at *
    refine HQ2.out.mono ?_; rintro e w9 ⟨hr, hb9⟩
    rw [HF2.out] at hr
    obtain ⟨A9, c9, B9, d9, rfl, g1, g2⟩ := hr
    unfold qv
    have u9 := u8.trans (hb9.mono u8.size)
    have hnb9 := hnb8.below hb9 hnb8.lt
    have hmb9 := hmb8.below hb9 hmb8.lt
    have hkb9 := hkb8.below hb9 hkb8.lt
    have K19 : Sl _ := ⟨And.intro (K18.out.1.below hb9) (K18.out.2.below hb9)⟩
    have K29 : Sl _ := ⟨And.intro (K28.out.1.below hb9) (K28.out.2.below hb9)⟩
    have K39 : Sl _ := ⟨And.intro (K38.out.1.below hb9) (K38.out.2.below hb9)⟩
    have K4 : Sl _ := ⟨And.intro g1 g2⟩
    clear g1 g2 hb9 hbl8 HQ2 u8 a0 a1 a2 a6 hnb8 hmb8 hkb8 K18 K28 K38
    have hal9 : Below w9.heap.size w9 (w9.alloc (.cells #[.bool ng2, .slice A9 ln2.length c9, .slice B9 ld2.length d9] 32)) := (Below.refl _ _).alloc (Nat.le_refl _) _
    have hjb := Blk.new w9 32 #[.bool ng2, .slice A9 ln2.length c9, .slice B9 ld2.length d9]
    have hnb := hnb9.below hal9 hnb9.lt
    have hmb := hmb9.below hal9 hmb9.lt
    have hkb := hkb9.below hal9 hkb9.lt
    have u10 := u9.trans (hal9.mono u9.size)
    have K1 : Sl _ := ⟨And.intro (K19.out.1.below hal9) (K19.out.2.below hal9)⟩
    have K2 : Sl _ := ⟨And.intro (K29.out.1.below hal9) (K29.out.2.below hal9)⟩
    have K3 : Sl _ := ⟨And.intro (K39.out.1.below hal9) (K39.out.2.below hal9)⟩
    have K40 : Sl _ := ⟨And.intro (K4.out.1.below hal9) (K4.out.2.below hal9)⟩
    have n0 := hnb.cell 0
    have n1 := hnb.cell 1
    have n2 := hnb.cell 2
    have m0 := hmb.cell 0
    have m1 := hmb.cell 1
    have m2 := hmb.cell 2
    simp at n0 n1 n2 m0 m1 m2
    have HS1 : Sl _ := ⟨sameQuo_eq ng1 ln1 ld1 A3 B3 A5 B5 c3 d3 c5 d5 _ K1.out.1 K1.out.2 K2.out.1 K2.out.2 HL11.out HL12.out⟩
    clear hal9 u9 hnb9 hmb9 hkb9 K19 K29 K39 K4 K1 K2
    go_wp2_with fail
    generalize hw10 : w9.alloc (.cells #[.bool ng2, .slice A9 ln2.length c9, .slice B9 ld2.length d9] 32) = w10 at *
    clear hw10
    generalize w9.heap.size = G9 at *
    refine HS1.out.mono ?_; rintro e w11 ⟨rfl, hb11⟩
    have u11 := u10.trans (hb11.mono u10.size)
    have hkb11 := hkb.below hb11 hkb.lt
    have hjb11 := hjb.below hb11 hjb.lt
    have k0 := hkb11.cell 0
    have k1 := hkb11.cell 1
    have k2 := hkb11.cell 2
    have j0 := hjb11.cell 0
    have j1 := hjb11.cell 1
    have j2 := hjb11.cell 2
    simp at k0 k1 k2 j0 j1 j2
    have HS2 : Sl _ := ⟨sameQuo_eq ng2 ln2 ld2 A7 B7 A9 B9 c7 d7 c9 d9 w11 (K3.out.1.below hb11) (K3.out.2.below hb11) (K40.out.1.below hb11) (K40.out.2.below hb11) HL21.out HL22.out⟩
    clear n0 n1 n2 m0 m1 m2 hnb hmb hkb hjb u10 hb11 HS1 K3 K40
    go_wp2_with fail
    refine HS2.out.mono ?_; rintro e w12 ⟨rfl, hb12⟩
    have u12 := u11.trans (hb12.mono u11.size)
    clear k0 k1 k2 j0 j1 j2 hkb11 hjb11 hb12 HS2
    go_wp2_with fail
    refine (HAW w12 (HT.out.below u12)).mono ?_; rintro e w13 ⟨rfl, hb13⟩
    go_wp2_with fail
    go_ret
    exact ⟨rfl, u12.trans (hb13.mono u12.size)⟩)

theorem shares_case {M1 M2 : Bool} {k : Int} (h : ¬ (M1 = false ∧ M2 = false ∧ (-12 ≤ k ∧ k ≤ 12 ∨ 2000 < k ∨ k < -2000))) :
    M1 = true ∨ M1 = false ∧ M2 = true ∨ M1 = false ∧ M2 = false ∧ 12 < k ∧ k ≤ 2000 ∨ M1 = false ∧ M2 = false ∧ k < -12 ∧ -2000 ≤ k := by
  cases M1 <;> cases M2 <;> simp at h ⊢ <;> omega

set_option maxHeartbeats 1600000 in
set_option maxRecDepth 100000 in
theorem shares_any (HAW : Awake) (A : Option Addr) (n c : Nat) (la : List Nat) (B : Option Addr) (m d : Nat) (lb : List Nat) (p : QV) (v3 v4 v5 : Value) (k : Int) (hk : -9223372036854775808 ≤ k ∧ k < 9223372036854775808) (w : World) (ha : Arg w A n c la) (hb : Arg w B m d lb) (hp : p.ok w) (ht : Tab10 w) :
    Calls Tryd.prog 4 #[.slice A n c, .slice B m d, .agg #[.bool p.neg, .slice p.A p.n p.c, .slice p.B p.m p.d, v3, v4, v5, .int .i64 k]] w fun e w' => e = .returned (.bool true) ∧ Below w.heap.size w w' := by
  by_cases h : muchS n m = false ∧ muchS p.n p.m = false ∧ (-12 ≤ k ∧ k ≤ 12 ∨ 2000 < k ∨ k < -2000)
  · exact shares_main HAW A n c la B m d lb p v3 v4 v5 k w ⟨ha⟩ ⟨hb⟩ ⟨hp⟩ ⟨ht⟩ ⟨h.1⟩ ⟨h.2.1⟩ (by omega)
  · have HT : Sl _ := ⟨ht⟩
    have HMU1 : Sl _ := ⟨fun (W : World) (h : Below w.heap.size w W) => much_any false A B n m c d la lb W (ha.below h) (hb.below h)⟩
    have HMU2 : Sl _ := ⟨fun (W : World) (h : Below w.heap.size w W) => much_any p.neg p.A p.B p.n p.m p.c p.d p.la p.lb W (hp.num.below h) (hp.den.below h)⟩
    have hu0 : Below w.heap.size w (w.alloc (.cells #[.bool p.neg, .slice p.A p.n p.c, .slice p.B p.m p.d, v3, v4, v5, .int .i64 k] 34)) := (Below.refl _ _).alloc (Nat.le_refl _) _
    have hbl0 := Blk.new w 34 #[.bool p.neg, .slice p.A p.n p.c, .slice p.B p.m p.d, v3, v4, v5, .int .i64 k]
    have hcs := shares_case h
    clear h ha hb hp ht
    generalize muchS n m = M1 at *
    generalize muchS p.n p.m = M2 at *
    rcases hcs with rfl | ⟨rfl, rfl⟩ | ⟨rfl, rfl, h4, h5⟩ | ⟨rfl, rfl, h4, h5⟩
    · go_enter Tryd.func4, Tryd.ntmps4
      go_wp2_with fail
      generalize w.alloc (.cells #[.bool p.neg, .slice p.A p.n p.c, .slice p.B p.m p.d, v3, v4, v5, .int .i64 k] 34) = w0 at *
      refine (HMU1.out w0 hu0).mono ?_; rintro e w1 ⟨rfl, hb1⟩
      have u1 := hu0.trans (hb1.mono hu0.size)
      go_wp2_with fail
      refine (HAW w1 (HT.out.below u1)).mono ?_; rintro e w2 ⟨rfl, hb2⟩
      go_wp2_with fail
      go_ret
      exact ⟨rfl, u1.trans (hb2.mono u1.size)⟩
    all_goals (
      go_enter Tryd.func4, Tryd.ntmps4
      go_wp2_with fail
      generalize w.alloc (.cells #[.bool p.neg, .slice p.A p.n p.c, .slice p.B p.m p.d, v3, v4, v5, .int .i64 k] 34) = w0 at *
      refine (HMU1.out w0 hu0).mono ?_; rintro e w1 ⟨rfl, hb1⟩
      have u1 := hu0.trans (hb1.mono hu0.size)
      have hbl1 := hbl0.below hb1 hbl0.lt
      have a0 := hbl1.cell 0
      have a1 := hbl1.cell 1
      have a2 := hbl1.cell 2
      simp at a0 a1 a2
      go_wp2_with fail
      refine (HMU2.out w1 u1).mono ?_; rintro e w2 ⟨rfl, hb2⟩
      have u2 := u1.trans (hb2.mono u1.size)
      have hbl2 := hbl1.below hb2 hbl1.lt
      have a6 := hbl2.cell 6
      simp at a6
      clear a0 a1 a2
      go_wp2_with fail
      refine (HAW w2 (HT.out.below u2)).mono ?_; rintro e w3 ⟨rfl, hb3⟩
      go_wp2_with fail
      go_ret
      exact ⟨rfl, u2.trans (hb3.mono u2.size)⟩)
end Go.Proofs.YtgjbaamhpapeeaaDoor
