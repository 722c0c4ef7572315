/- The law WideRing returns true, where awake does. -/
import Derived.Test.YtgjbaamhpapeeaaDoorLawW
namespace Go.Proofs.YtgjbaamhpapeeaaDoor
open Go.RowKit
set_option linter.unusedVariables false
set_option linter.unusedSimpArgs false

theorem NV.len_le {a M : Nat} (h : (limbs a).length ≤ M) (hM : M ≤ 512) : (limbs a).length ≤ 512 := Nat.le_trans h hM

set_option maxHeartbeats 3200000 in
set_option maxRecDepth 100000 in
theorem ring_main (HAW : Awake) (A : Option Addr) (n k a : Nat) (B : Option Addr) (m d b : Nat) (C : Option Addr) (l f c : Nat) (w : World) (HAA : Sl (Arg w A n k (limbs a))) (HBB : Sl (Arg w B m d (limbs b))) (HCC : Sl (Arg w C l f (limbs c))) (hn : n ≤ 120) (hm : m ≤ 120) (hl : l ≤ 120) (HT : Sl (Tab10 w)) :
    Calls Tryd.prog 9 #[.slice A n k, .slice B m d, .slice C l f] w fun e w' => e = .returned (.bool true) ∧ Below w.heap.size w w' := by
  have la : (limbs a).length ≤ 120 := by rw [HAA.out.1.len]; exact hn
  have lb : (limbs b).length ≤ 120 := by rw [HBB.out.1.len]; exact hm
  have lc : (limbs c).length ≤ 120 := by rw [HCC.out.1.len]; exact hl
  have HV1 : Sl _ := ⟨rValid_any A n k (limbs a) w HAA.out.1 HAA.out.2.1 HAA.out.2.2⟩
  have HV2 : Sl _ := ⟨rValid_any B m d (limbs b) w HBB.out.1 HBB.out.2.1 HBB.out.2.2⟩
  have HV3 : Sl _ := ⟨rValid_any C l f (limbs c) w HCC.out.1 HCC.out.2.1 HCC.out.2.2⟩
  rw [validL_limbs (by omega)] at HV1 HV2 HV3
  have HA_0 : Sl (NV w (.slice A n k) a) := ⟨HAA.out.nv⟩
  have HB_0 : Sl (NV w (.slice B m d) b) := ⟨HBB.out.nv⟩
  have HC_0 : Sl (NV w (.slice C l f) c) := ⟨HCC.out.nv⟩
  have s1 : (limbs (a + b)).length ≤ 121 := limbs_len_add la lb
  have s2 : (limbs (b + c)).length ≤ 121 := limbs_len_add lb lc
  have s3 : (limbs (a + b + c)).length ≤ 122 := limbs_len_add s1 (Nat.le_trans lc (by decide))
  have s4 : (limbs (a + (b + c))).length ≤ 122 := by rw [← Nat.add_assoc]; exact s3
  have s5 := limbs_len_mul a b
  have s6 : (limbs (b * a)).length ≤ 240 := by rw [Nat.mul_comm]; omega
  have s7 := limbs_len_mul a (b + c)
  have s8 := limbs_len_mul a c
  have s9 : (limbs (a * b + a * c)).length ≤ 241 := by rw [← Nat.mul_add]; omega
  have s10 := limbs_len_mul (a * b) c
  have s11 := limbs_len_mul c b
  have s12 := limbs_len_mul a (c * b)
  have e1 : a + (b + c) = a + b + c := (Nat.add_assoc ..).symm
  have e2 : a + b - b = a := by omega
  have e3 : b * a = a * b := Nat.mul_comm ..
  have e4 : a * (b + c) = a * b + a * c := Nat.mul_add ..
  have e5 : a * (c * b) = a * b * c := by rw [Nat.mul_comm c b, Nat.mul_assoc]
  have E1 : Sl _ := ⟨e1⟩
  have E2 : Sl _ := ⟨e2⟩
  have E3 : Sl _ := ⟨e3⟩
  have E4 : Sl _ := ⟨e4⟩
  have E5 : Sl _ := ⟨e5⟩
  clear e1 e2 e3 e4 e5
  go_enter Tryd.func9, Tryd.ntmps9
  go_wp2_with fail
  refine HV1.out.mono ?_; rintro e w' ⟨rfl, rfl⟩
  go_wp2_with fail
  refine HV2.out.mono ?_; rintro e w' ⟨rfl, rfl⟩
  go_wp2_with fail
  refine HV3.out.mono ?_; rintro e w' ⟨rfl, rfl⟩
  go_wp2_with fail
  refine (Add_nv (.slice A n k) (.slice B m d) (a) (b) w HA_0.out HB_0.out (by omega) (by omega) (by omega)).mono ?_; rintro e w1 ⟨⟨x1, rfl, hx1⟩, hb1⟩
  have u1 := hb1
  have HA_1 : Sl _ := ⟨HA_0.out.below hb1⟩
  have HB_1 : Sl _ := ⟨HB_0.out.below hb1⟩
  have HC_1 : Sl _ := ⟨HC_0.out.below hb1⟩
  have HS_1 : Sl _ := ⟨hx1⟩
  clear HA_0 HB_0 HC_0 hx1 hb1
  go_wp2_with fail
  refine (Add_nv (.slice B m d) (.slice C l f) (b) (c) w1 HB_1.out HC_1.out (by omega) (by omega) (by omega)).mono ?_; rintro e w2 ⟨⟨x2, rfl, hx2⟩, hb2⟩
  have u2 := u1.trans (hb2.mono u1.size)
  have HA_2 : Sl _ := ⟨HA_1.out.below hb2⟩
  have HB_2 : Sl _ := ⟨HB_1.out.below hb2⟩
  have HC_2 : Sl _ := ⟨HC_1.out.below hb2⟩
  have HS_2 : Sl _ := ⟨HS_1.out.below hb2⟩
  have HT_2 : Sl _ := ⟨hx2⟩
  clear HA_1 HB_1 HC_1 HS_1 hx2 hb2 u1
  go_wp2_with fail
  refine (Add_nv x1 (.slice C l f) (a + b) (c) w2 HS_2.out HC_2.out (by omega) (by omega) (by omega)).mono ?_; rintro e w3 ⟨⟨x3, rfl, hx3⟩, hb3⟩
  have u3 := u2.trans (hb3.mono u2.size)
  have HA_3 : Sl _ := ⟨HA_2.out.below hb3⟩
  have HB_3 : Sl _ := ⟨HB_2.out.below hb3⟩
  have HC_3 : Sl _ := ⟨HC_2.out.below hb3⟩
  have HS_3 : Sl _ := ⟨HS_2.out.below hb3⟩
  have HT_3 : Sl _ := ⟨HT_2.out.below hb3⟩
  have HL_3 : Sl _ := ⟨hx3⟩
  clear HA_2 HB_2 HC_2 HS_2 HT_2 hx3 hb3 u2
  go_wp2_with fail
  refine (Add_nv (.slice A n k) x2 (a) (b + c) w3 HA_3.out HT_3.out (by omega) (by omega) (by omega)).mono ?_; rintro e w4 ⟨⟨x4, rfl, hx4⟩, hb4⟩
  have u4 := u3.trans (hb4.mono u3.size)
  have HA_4 : Sl _ := ⟨HA_3.out.below hb4⟩
  have HB_4 : Sl _ := ⟨HB_3.out.below hb4⟩
  have HC_4 : Sl _ := ⟨HC_3.out.below hb4⟩
  have HS_4 : Sl _ := ⟨HS_3.out.below hb4⟩
  have HT_4 : Sl _ := ⟨HT_3.out.below hb4⟩
  have HL_4 : Sl _ := ⟨HL_3.out.below hb4⟩
  have HR_4 : Sl _ := ⟨hx4⟩
  clear HA_3 HB_3 HC_3 HS_3 HT_3 HL_3 hx4 hb4 u3
  go_wp2_with fail
  refine (Sub_nv x1 (.slice B m d) (a + b) (b) w4 HS_4.out HB_4.out (by omega) (by omega) (by omega)).mono ?_; rintro e w5 ⟨⟨x5, rfl, hx5⟩, hb5⟩
  have u5 := u4.trans (hb5.mono u4.size)
  have HA_5 : Sl _ := ⟨HA_4.out.below hb5⟩
  have HB_5 : Sl _ := ⟨HB_4.out.below hb5⟩
  have HC_5 : Sl _ := ⟨HC_4.out.below hb5⟩
  have HS_5 : Sl _ := ⟨HS_4.out.below hb5⟩
  have HT_5 : Sl _ := ⟨HT_4.out.below hb5⟩
  have HL_5 : Sl _ := ⟨HL_4.out.below hb5⟩
  have HR_5 : Sl _ := ⟨HR_4.out.below hb5⟩
  have HK_5 : Sl _ := ⟨hx5⟩
  clear HA_4 HB_4 HC_4 HS_4 HT_4 HL_4 HR_4 hx5 hb5 u4
  rw [E1.out] at HR_5
  rw [E2.out] at HK_5
  go_wp2_with fail
  refine (same_nv x3 x4 (a + b + c) w5 HL_5.out HR_5.out (by omega)).mono ?_; rintro e w6 ⟨rfl, hb6⟩
  have u6 := u5.trans (hb6.mono u5.size)
  have HA_6 : Sl _ := ⟨HA_5.out.below hb6⟩
  have HB_6 : Sl _ := ⟨HB_5.out.below hb6⟩
  have HC_6 : Sl _ := ⟨HC_5.out.below hb6⟩
  have HS_6 : Sl _ := ⟨HS_5.out.below hb6⟩
  have HT_6 : Sl _ := ⟨HT_5.out.below hb6⟩
  have HL_6 : Sl _ := ⟨HL_5.out.below hb6⟩
  have HR_6 : Sl _ := ⟨HR_5.out.below hb6⟩
  have HK_6 : Sl _ := ⟨HK_5.out.below hb6⟩
  clear HA_5 HB_5 HC_5 HS_5 HT_5 HL_5 HR_5 HK_5 hb6 u5
  go_wp2_with fail
  refine (same_nv x5 (.slice A n k) (a) w6 HK_6.out HA_6.out (by omega)).mono ?_; rintro e w7 ⟨rfl, hb7⟩
  have u7 := u6.trans (hb7.mono u6.size)
  have HA_7 : Sl _ := ⟨HA_6.out.below hb7⟩
  have HB_7 : Sl _ := ⟨HB_6.out.below hb7⟩
  have HC_7 : Sl _ := ⟨HC_6.out.below hb7⟩
  have HS_7 : Sl _ := ⟨HS_6.out.below hb7⟩
  have HT_7 : Sl _ := ⟨HT_6.out.below hb7⟩
  have HL_7 : Sl _ := ⟨HL_6.out.below hb7⟩
  have HR_7 : Sl _ := ⟨HR_6.out.below hb7⟩
  have HK_7 : Sl _ := ⟨HK_6.out.below hb7⟩
  clear HA_6 HB_6 HC_6 HS_6 HT_6 HL_6 HR_6 HK_6 hb7 u6
  clear HL_7
  clear HR_7
  clear HK_7
  clear HS_7
  go_wp2_with fail
  refine (Mul_nv (.slice A n k) (.slice B m d) (a) (b) w7 HA_7.out HB_7.out (by omega) (by omega) (by omega)).mono ?_; rintro e w8 ⟨⟨x8, rfl, hx8⟩, hb8⟩
  have u8 := u7.trans (hb8.mono u7.size)
  have HA_8 : Sl _ := ⟨HA_7.out.below hb8⟩
  have HB_8 : Sl _ := ⟨HB_7.out.below hb8⟩
  have HC_8 : Sl _ := ⟨HC_7.out.below hb8⟩
  have HT_8 : Sl _ := ⟨HT_7.out.below hb8⟩
  have HX_8 : Sl _ := ⟨hx8⟩
  clear HA_7 HB_7 HC_7 HT_7 hx8 hb8 u7
  go_wp2_with fail
  refine (Mul_nv (.slice B m d) (.slice A n k) (b) (a) w8 HB_8.out HA_8.out (by omega) (by omega) (by omega)).mono ?_; rintro e w9 ⟨⟨x9, rfl, hx9⟩, hb9⟩
  have u9 := u8.trans (hb9.mono u8.size)
  have HA_9 : Sl _ := ⟨HA_8.out.below hb9⟩
  have HB_9 : Sl _ := ⟨HB_8.out.below hb9⟩
  have HC_9 : Sl _ := ⟨HC_8.out.below hb9⟩
  have HT_9 : Sl _ := ⟨HT_8.out.below hb9⟩
  have HX_9 : Sl _ := ⟨HX_8.out.below hb9⟩
  have HY_9 : Sl _ := ⟨hx9⟩
  clear HA_8 HB_8 HC_8 HT_8 HX_8 hx9 hb9 u8
  go_wp2_with fail
  refine (Mul_nv (.slice A n k) x2 (a) (b + c) w9 HA_9.out HT_9.out (by omega) (by omega) (by omega)).mono ?_; rintro e w10 ⟨⟨x10, rfl, hx10⟩, hb10⟩
  have u10 := u9.trans (hb10.mono u9.size)
  have HA_10 : Sl _ := ⟨HA_9.out.below hb10⟩
  have HB_10 : Sl _ := ⟨HB_9.out.below hb10⟩
  have HC_10 : Sl _ := ⟨HC_9.out.below hb10⟩
  have HT_10 : Sl _ := ⟨HT_9.out.below hb10⟩
  have HX_10 : Sl _ := ⟨HX_9.out.below hb10⟩
  have HY_10 : Sl _ := ⟨HY_9.out.below hb10⟩
  have HQ_10 : Sl _ := ⟨hx10⟩
  clear HA_9 HB_9 HC_9 HT_9 HX_9 HY_9 hx10 hb10 u9
  go_wp2_with fail
  refine (Mul_nv (.slice A n k) (.slice C l f) (a) (c) w10 HA_10.out HC_10.out (by omega) (by omega) (by omega)).mono ?_; rintro e w11 ⟨⟨x11, rfl, hx11⟩, hb11⟩
  have u11 := u10.trans (hb11.mono u10.size)
  have HA_11 : Sl _ := ⟨HA_10.out.below hb11⟩
  have HB_11 : Sl _ := ⟨HB_10.out.below hb11⟩
  have HC_11 : Sl _ := ⟨HC_10.out.below hb11⟩
  have HT_11 : Sl _ := ⟨HT_10.out.below hb11⟩
  have HX_11 : Sl _ := ⟨HX_10.out.below hb11⟩
  have HY_11 : Sl _ := ⟨HY_10.out.below hb11⟩
  have HQ_11 : Sl _ := ⟨HQ_10.out.below hb11⟩
  have HZ_11 : Sl _ := ⟨hx11⟩
  clear HA_10 HB_10 HC_10 HT_10 HX_10 HY_10 HQ_10 hx11 hb11 u10
  go_wp2_with fail
  refine (Add_nv x8 x11 (a * b) (a * c) w11 HX_11.out HZ_11.out (by omega) (by omega) (by omega)).mono ?_; rintro e w12 ⟨⟨x12, rfl, hx12⟩, hb12⟩
  have u12 := u11.trans (hb12.mono u11.size)
  have HA_12 : Sl _ := ⟨HA_11.out.below hb12⟩
  have HB_12 : Sl _ := ⟨HB_11.out.below hb12⟩
  have HC_12 : Sl _ := ⟨HC_11.out.below hb12⟩
  have HT_12 : Sl _ := ⟨HT_11.out.below hb12⟩
  have HX_12 : Sl _ := ⟨HX_11.out.below hb12⟩
  have HY_12 : Sl _ := ⟨HY_11.out.below hb12⟩
  have HQ_12 : Sl _ := ⟨HQ_11.out.below hb12⟩
  have HZ_12 : Sl _ := ⟨HZ_11.out.below hb12⟩
  have HW_12 : Sl _ := ⟨hx12⟩
  clear HA_11 HB_11 HC_11 HT_11 HX_11 HY_11 HQ_11 HZ_11 hx12 hb12 u11
  rw [E3.out] at HY_12
  rw [E4.out] at HQ_12
  go_wp2_with fail
  refine (same_nv x8 x9 (a * b) w12 HX_12.out HY_12.out (by omega)).mono ?_; rintro e w13 ⟨rfl, hb13⟩
  have u13 := u12.trans (hb13.mono u12.size)
  have HA_13 : Sl _ := ⟨HA_12.out.below hb13⟩
  have HB_13 : Sl _ := ⟨HB_12.out.below hb13⟩
  have HC_13 : Sl _ := ⟨HC_12.out.below hb13⟩
  have HT_13 : Sl _ := ⟨HT_12.out.below hb13⟩
  have HX_13 : Sl _ := ⟨HX_12.out.below hb13⟩
  have HY_13 : Sl _ := ⟨HY_12.out.below hb13⟩
  have HQ_13 : Sl _ := ⟨HQ_12.out.below hb13⟩
  have HZ_13 : Sl _ := ⟨HZ_12.out.below hb13⟩
  have HW_13 : Sl _ := ⟨HW_12.out.below hb13⟩
  clear HA_12 HB_12 HC_12 HT_12 HX_12 HY_12 HQ_12 HZ_12 HW_12 hb13 u12
  go_wp2_with fail
  refine (same_nv x10 x12 (a * b + a * c) w13 HQ_13.out HW_13.out (by omega)).mono ?_; rintro e w14 ⟨rfl, hb14⟩
  have u14 := u13.trans (hb14.mono u13.size)
  have HA_14 : Sl _ := ⟨HA_13.out.below hb14⟩
  have HB_14 : Sl _ := ⟨HB_13.out.below hb14⟩
  have HC_14 : Sl _ := ⟨HC_13.out.below hb14⟩
  have HT_14 : Sl _ := ⟨HT_13.out.below hb14⟩
  have HX_14 : Sl _ := ⟨HX_13.out.below hb14⟩
  have HY_14 : Sl _ := ⟨HY_13.out.below hb14⟩
  have HQ_14 : Sl _ := ⟨HQ_13.out.below hb14⟩
  have HZ_14 : Sl _ := ⟨HZ_13.out.below hb14⟩
  have HW_14 : Sl _ := ⟨HW_13.out.below hb14⟩
  clear HA_13 HB_13 HC_13 HT_13 HX_13 HY_13 HQ_13 HZ_13 HW_13 hb14 u13
  clear HY_14
  clear HQ_14
  clear HZ_14
  clear HW_14
  clear HT_14
  go_wp2_with fail
  refine (Mul_nv x8 (.slice C l f) (a * b) (c) w14 HX_14.out HC_14.out (by omega) (by omega) (by omega)).mono ?_; rintro e w15 ⟨⟨x15, rfl, hx15⟩, hb15⟩
  have u15 := u14.trans (hb15.mono u14.size)
  have HA_15 : Sl _ := ⟨HA_14.out.below hb15⟩
  have HB_15 : Sl _ := ⟨HB_14.out.below hb15⟩
  have HC_15 : Sl _ := ⟨HC_14.out.below hb15⟩
  have HX_15 : Sl _ := ⟨HX_14.out.below hb15⟩
  have HU_15 : Sl _ := ⟨hx15⟩
  clear HA_14 HB_14 HC_14 HX_14 hx15 hb15 u14
  go_wp2_with fail
  refine (Mul_nv (.slice C l f) (.slice B m d) (c) (b) w15 HC_15.out HB_15.out (by omega) (by omega) (by omega)).mono ?_; rintro e w16 ⟨⟨x16, rfl, hx16⟩, hb16⟩
  have u16 := u15.trans (hb16.mono u15.size)
  have HA_16 : Sl _ := ⟨HA_15.out.below hb16⟩
  have HB_16 : Sl _ := ⟨HB_15.out.below hb16⟩
  have HC_16 : Sl _ := ⟨HC_15.out.below hb16⟩
  have HX_16 : Sl _ := ⟨HX_15.out.below hb16⟩
  have HU_16 : Sl _ := ⟨HU_15.out.below hb16⟩
  have HG_16 : Sl _ := ⟨hx16⟩
  clear HA_15 HB_15 HC_15 HX_15 HU_15 hx16 hb16 u15
  go_wp2_with fail
  refine (Mul_nv (.slice A n k) x16 (a) (c * b) w16 HA_16.out HG_16.out (by omega) (by omega) (by omega)).mono ?_; rintro e w17 ⟨⟨x17, rfl, hx17⟩, hb17⟩
  have u17 := u16.trans (hb17.mono u16.size)
  have HA_17 : Sl _ := ⟨HA_16.out.below hb17⟩
  have HB_17 : Sl _ := ⟨HB_16.out.below hb17⟩
  have HC_17 : Sl _ := ⟨HC_16.out.below hb17⟩
  have HX_17 : Sl _ := ⟨HX_16.out.below hb17⟩
  have HU_17 : Sl _ := ⟨HU_16.out.below hb17⟩
  have HG_17 : Sl _ := ⟨HG_16.out.below hb17⟩
  have HJ_17 : Sl _ := ⟨hx17⟩
  clear HA_16 HB_16 HC_16 HX_16 HU_16 HG_16 hx17 hb17 u16
  rw [E5.out] at HJ_17
  go_wp2_with fail
  refine (same_nv x15 x17 (a * b * c) w17 HU_17.out HJ_17.out (by omega)).mono ?_; rintro e w18 ⟨rfl, hb18⟩
  have u18 := u17.trans (hb18.mono u17.size)
  have HA_18 : Sl _ := ⟨HA_17.out.below hb18⟩
  have HB_18 : Sl _ := ⟨HB_17.out.below hb18⟩
  have HC_18 : Sl _ := ⟨HC_17.out.below hb18⟩
  have HX_18 : Sl _ := ⟨HX_17.out.below hb18⟩
  have HU_18 : Sl _ := ⟨HU_17.out.below hb18⟩
  have HG_18 : Sl _ := ⟨HG_17.out.below hb18⟩
  have HJ_18 : Sl _ := ⟨HJ_17.out.below hb18⟩
  clear HA_17 HB_17 HC_17 HX_17 HU_17 HG_17 HJ_17 hb18 u17
  clear HU_18
  clear HJ_18
  clear HG_18
  go_wp2_with fail
  refine (divs_any x8 (.slice C l f) B m d (a * b) b c w18 HX_18.out (HBB.out.below u18) HC_18.out (by omega) lb lc).mono ?_; rintro e w19 ⟨rfl, hb19⟩
  have u19 := u18.trans (hb19.mono u18.size)
  have HA_19 : Sl _ := ⟨HA_18.out.below hb19⟩
  have HB_19 : Sl _ := ⟨HB_18.out.below hb19⟩
  have HC_19 : Sl _ := ⟨HC_18.out.below hb19⟩
  have HX_19 : Sl _ := ⟨HX_18.out.below hb19⟩
  clear HA_18 HB_18 HC_18 HX_18 hb19 u18
  go_wp2_with fail
  refine (HAW w19 (HT.out.below u19)).mono ?_; rintro e w20 ⟨rfl, hb20⟩
  have u20 := u19.trans (hb20.mono u19.size)
  have HA_20 : Sl _ := ⟨HA_19.out.below hb20⟩
  have HB_20 : Sl _ := ⟨HB_19.out.below hb20⟩
  have HC_20 : Sl _ := ⟨HC_19.out.below hb20⟩
  have HX_20 : Sl _ := ⟨HX_19.out.below hb20⟩
  clear HA_19 HB_19 HC_19 HX_19 hb20 u19
  go_wp2_with fail
  go_ret
  exact ⟨rfl, u20⟩

theorem ring_case {A B C : Bool} {n m l : Nat} (h : ¬ (A = true ∧ B = true ∧ C = true ∧ n ≤ 120 ∧ m ≤ 120 ∧ l ≤ 120)) :
    A = false ∨ A = true ∧ B = false ∨ A = true ∧ B = true ∧ C = false ∨ A = true ∧ B = true ∧ C = true ∧ 120 < n ∨ A = true ∧ B = true ∧ C = true ∧ n ≤ 120 ∧ 120 < m ∨ A = true ∧ B = true ∧ C = true ∧ n ≤ 120 ∧ m ≤ 120 ∧ 120 < l := by
  cases A <;> cases B <;> cases C <;> simp at h ⊢ <;> omega

set_option maxHeartbeats 1600000 in
set_option maxRecDepth 100000 in
theorem ring_any (HAW : Awake) (A : Option Addr) (n k : Nat) (la : List Nat) (B : Option Addr) (m d : Nat) (lb : List Nat) (C : Option Addr) (l f : Nat) (lc : List Nat) (w : World) (ha : Arg w A n k la) (hb : Arg w B m d lb) (hc : Arg w C l f lc) (ht : Tab10 w) :
    Calls Tryd.prog 9 #[.slice A n k, .slice B m d, .slice C l f] w fun e w' => e = .returned (.bool true) ∧ Below w.heap.size w w' := by
  by_cases h : validL la = true ∧ validL lb = true ∧ validL lc = true ∧ n ≤ 120 ∧ m ≤ 120 ∧ l ≤ 120
  · obtain ⟨h1, h2, h3, h4, h5, h6⟩ := h
    have e1 := ((validL_iff ha.1.2).1 h1).1
    have e2 := ((validL_iff hb.1.2).1 h2).1
    have e3 := ((validL_iff hc.1.2).1 h3).1
    rw [e1] at ha
    rw [e2] at hb
    rw [e3] at hc
    exact ring_main HAW A n k (valOf la) B m d (valOf lb) C l f (valOf lc) w ⟨ha⟩ ⟨hb⟩ ⟨hc⟩ h4 h5 h6 ⟨ht⟩
  · have HT : Sl _ := ⟨ht⟩
    have HV1 : Sl _ := ⟨rValid_any A n k la w ha.1 ha.2.1 ha.2.2⟩
    have HV2 : Sl _ := ⟨rValid_any B m d lb w hb.1 hb.2.1 hb.2.2⟩
    have HV3 : Sl _ := ⟨rValid_any C l f lc w hc.1 hc.2.1 hc.2.2⟩
    have m1 := ha.2
    have m2 := hb.2
    have m3 := hc.2
    unfold maxLen at m1 m2 m3
    obtain ⟨p1, p2⟩ := m1
    obtain ⟨p3, p4⟩ := m2
    obtain ⟨p5, p6⟩ := m3
    have hcs := ring_case h
    clear h ha hb hc ht
    generalize validL la = va at *
    generalize validL lb = vb at *
    generalize validL lc = vc at *
    rcases hcs with rfl | ⟨rfl, rfl⟩ | ⟨rfl, rfl, rfl⟩ | ⟨rfl, rfl, rfl, h4⟩ | ⟨rfl, rfl, rfl, h4, h5⟩ | ⟨rfl, rfl, rfl, h4, h5, h6⟩
    all_goals (
      go_enter Tryd.func9, Tryd.ntmps9
      go_wp2_with fail
      refine HV1.out.mono ?_; rintro e w' ⟨rfl, rfl⟩
      go_wp2_with fail
      try (refine HV2.out.mono ?_; rintro e w' ⟨rfl, rfl⟩; go_wp2_with fail)
      try (refine HV3.out.mono ?_; rintro e w' ⟨rfl, rfl⟩; go_wp2_with fail)
      refine (HAW w HT.out).mono ?_; rintro e w1 ⟨rfl, hb1⟩
      go_wp2_with fail
      go_ret
      exact ⟨rfl, hb1⟩)
end Go.Proofs.YtgjbaamhpapeeaaDoor
