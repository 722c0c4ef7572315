/- The law WideCommon returns true, where awake does. -/
import Derived.Test.YtgjbaamhpapeeaaGreatDoorLawW
import Derived.Test.YtgjbaamhpapeeaaGreatDoorTxtC
namespace Go.Proofs.YtgjbaamhpapeeaaGreatDoor
open Go.RowKit
open Go.Lib (decDigits)
set_option linter.unusedVariables false
set_option linter.unusedSimpArgs false

theorem Gcd_nv (v u : Value) (a b : Nat) (w : World) (hv : NV w v a) (hu : NV w u b) (ha : (limbs a).length ≤ 512) (hb : (limbs b).length ≤ 512) :
    Calls Tryz.prog 29 #[v, u] w fun e w' => NRes (Nat.gcd a b) e w' ∧ Below w.heap.size w w' := by
  obtain ⟨A, c, rfl, h1⟩ := hv
  obtain ⟨B, d, rfl, h2⟩ := hu
  have C := Gcd_any A B _ _ c d _ _ w h1 h2
  rw [gcdS_ok ha hb] at C
  exact C.mono fun e w' h => ⟨h.1.nres, h.2⟩
theorem sixty_pow : LB ^ 60 ≤ 10 ^ 4900 := of_decide_eq_true (by kernel_rfl)
theorem text_fits {a : Nat} (h : (limbs a).length ≤ 60) : (decDigits a).length ≤ 4900 := by
  refine (padD_eq 4900 a (by decide) ?_).1
  exact Nat.lt_of_lt_of_le (lt_limbs_len a) (Nat.le_trans (Nat.pow_le_pow_right LB_pos h) sixty_pow)
theorem Text_nv (v : Value) (a : Nat) (w : World) (hv : NV w v a) (ha : (limbs a).length ≤ 60) (ht : Tab10 w) :
    Calls Tryz.prog 24 #[v] w fun e w' => e = .returned (.tuple #[.string ⟨(decDigits a).toArray⟩, .int .i64 0]) ∧ Below w.heap.size w w' := by
  obtain ⟨A, c, rfl, h1⟩ := hv
  have C := Text_any A _ c _ w h1 ht
  have e : textS (limbs a) = (decDigits a, 0) := by
    have hb : badE [limbs a] = 0 := badE_zero.2 (by
      intro l hl
      simp at hl
      subst hl
      exact validL_limbs (by omega))
    simp [textS, hb, valOf_limbs]
  rw [e] at C
  exact C
theorem Parse_nv (s : ByteArray) (a : Nat) (w : World) (hs : s = ⟨(decDigits a).toArray⟩) (ha : (limbs a).length ≤ 60) :
    Calls Tryz.prog 26 #[.string s] w fun e w' => NRes a e w' ∧ Below w.heap.size w w' := by
  have hl := text_fits ha
  have e : s.data.toList = decDigits a := by rw [hs]
  have C := wParse_any s w (by have := size_len s; rw [e] at this; unfold maxLen; omega)
  rw [e] at C
  refine C.mono fun e w' h => ⟨?_, h.2⟩
  obtain ⟨A, c, he, hk⟩ := h.1
  have ep := parse_text hl
  rw [ep] at he hk
  exact ⟨_, he, A, c, rfl, hk⟩
theorem nv_zero {w : World} {v : Value} (h : NV w v 0) : ∃ A c, v = .slice A 0 c := by
  obtain ⟨A, c, rfl, h1⟩ := h
  rw [limbs_zero]
  exact ⟨A, c, rfl⟩
theorem nv_lit (w : World) (t : TypeId) : NV (w.alloc (.cells #[.int .u32 1] t)) (.slice (some ⟨w.heap.size, 0, none⟩) 1 1) 1 := by
  have h1 := limbs_one (x := 1) (by decide) (by decide)
  refine ⟨some ⟨w.heap.size, 0, none⟩, 1, ?_, ?_⟩
  · rw [h1]; rfl
  · rw [h1]; exact ⟨U_one w 1 (by decide) t, by simp, by decide⟩
theorem gcd_parts {a b : Nat} (h : 0 < Nat.gcd a b) : a % Nat.gcd a b = 0 ∧ b % Nat.gcd a b = 0 ∧ Nat.gcd (a / Nat.gcd a b) (b / Nat.gcd a b) = 1 :=
  ⟨Nat.mod_eq_zero_of_dvd (Nat.gcd_dvd_left a b), Nat.mod_eq_zero_of_dvd (Nat.gcd_dvd_right a b), Nat.coprime_div_gcd_div_gcd h⟩

set_option maxHeartbeats 3200000 in
set_option maxRecDepth 100000 in
theorem common_main (HAW : Awake) (A : Option Addr) (n k a : Nat) (B : Option Addr) (m d b : Nat) (w : World) (HAA : Sl (Arg w A n k (limbs a))) (HBB : Sl (Arg w B m d (limbs b))) (hn : n ≤ 60) (hm : m ≤ 60) (HT : Sl (Tab10 w)) :
    Calls Tryz.prog 5 #[.slice A n k, .slice B m d] w fun e w' => e = .returned (.bool true) ∧ Below w.heap.size w w' := by
  have la : (limbs a).length ≤ 60 := by rw [HAA.out.1.len]; exact hn
  have lb : (limbs b).length ≤ 60 := by rw [HBB.out.1.len]; exact hm
  have HV1 : Sl _ := ⟨rValid_any A n k (limbs a) w HAA.out.1 HAA.out.2.1 HAA.out.2.2⟩
  have HV2 : Sl _ := ⟨rValid_any B m d (limbs b) w HBB.out.1 HBB.out.2.1 HBB.out.2.2⟩
  rw [validL_limbs (by omega)] at HV1 HV2
  have HA_0 : Sl (NV w (.slice A n k) a) := ⟨HAA.out.nv⟩
  have HB_0 : Sl (NV w (.slice B m d) b) := ⟨HBB.out.nv⟩
  have HLA : Sl _ := ⟨HAA.out.1.len⟩
  have HLB : Sl _ := ⟨HBB.out.1.len⟩
  go_enter Tryz.func5, Tryz.ntmps5
  go_wp2_with fail
  refine HV1.out.mono ?_; rintro e w' ⟨rfl, rfl⟩
  go_wp2_with fail
  refine HV2.out.mono ?_; rintro e w' ⟨rfl, rfl⟩
  clear HV1 HV2
  go_wp2_with fail
  refine (Text_nv (.slice A n k) a w HA_0.out la HT.out).mono ?_; rintro e w1 ⟨rfl, hb1⟩
  have u1 := hb1
  have HA_1 : Sl _ := ⟨HA_0.out.below hb1⟩
  have HB_1 : Sl _ := ⟨HB_0.out.below hb1⟩
  clear HA_0 HB_0 hb1
  obtain ⟨ps, hps⟩ : ∃ s : ByteArray, s = ⟨(decDigits a).toArray⟩ := ⟨_, rfl⟩
  rw [← hps]
  have HPS : Sl _ := ⟨hps⟩
  clear hps
  go_wp2_with fail
  refine (Parse_nv ps a w1 HPS.out la).mono ?_; rintro e w2 ⟨⟨x2, rfl, hx2⟩, hb2⟩
  have u2 := u1.trans (hb2.mono u1.size)
  have HA_2 : Sl _ := ⟨HA_1.out.below hb2⟩
  have HB_2 : Sl _ := ⟨HB_1.out.below hb2⟩
  have HK_2 : Sl _ := ⟨hx2⟩
  clear HA_1 HB_1 hx2 hb2 u1
  go_wp2_with fail
  refine (Gcd_nv (.slice A n k) (.slice B m d) (a) (b) w2 HA_2.out HB_2.out (by omega) (by omega)).mono ?_; rintro e w3 ⟨⟨x3, rfl, hx3⟩, hb3⟩
  have u3 := u2.trans (hb3.mono u2.size)
  have HA_3 : Sl _ := ⟨HA_2.out.below hb3⟩
  have HB_3 : Sl _ := ⟨HB_2.out.below hb3⟩
  have HK_3 : Sl _ := ⟨HK_2.out.below hb3⟩
  have HG_3 : Sl _ := ⟨hx3⟩
  clear HA_2 HB_2 HK_2 hx3 hb3 u2
  go_wp2_with fail
  refine (same_nv x2 (.slice A n k) (a) w3 HK_3.out HA_3.out (by omega)).mono ?_; rintro e w4 ⟨rfl, hb4⟩
  have u4 := u3.trans (hb4.mono u3.size)
  have HA_4 : Sl _ := ⟨HA_3.out.below hb4⟩
  have HB_4 : Sl _ := ⟨HB_3.out.below hb4⟩
  have HK_4 : Sl _ := ⟨HK_3.out.below hb4⟩
  have HG_4 : Sl _ := ⟨HG_3.out.below hb4⟩
  clear HA_3 HB_3 HK_3 HG_3 hb4 u3
  clear HK_4
  rcases Nat.eq_zero_or_pos (Nat.gcd a b) with hg0 | hg0
  · have ha0 : a = 0 := Nat.eq_zero_of_gcd_eq_zero_left hg0
    have hb0 : b = 0 := Nat.eq_zero_of_gcd_eq_zero_right hg0
    have hn0 : n = 0 := by rw [← HLA.out, ha0, limbs_zero]; rfl
    have hm0 : m = 0 := by rw [← HLB.out, hb0, limbs_zero]; rfl
    rw [hg0] at HG_4
    obtain ⟨Ag, cg, hgx⟩ := nv_zero HG_4.out
    subst hgx
    have HU : Sl _ := ⟨u4⟩
    have HAK : Sl _ := ⟨HAW w4 (HT.out.below u4)⟩
    clear HA_4 HB_4 HG_4 u4 hg0 ha0 hb0 HLA HLB la lb hn hm
    subst hn0
    subst hm0
    go_wp2_with fail
    refine HAK.out.mono ?_; rintro e wz ⟨rfl, hbz⟩
    go_wp2_with fail
    go_ret
    exact ⟨rfl, HU.out.trans (hbz.mono HU.out.size)⟩
  · have hgl : 0 < (limbs (Nat.gcd a b)).length := by
      rcases Nat.eq_zero_or_pos (limbs (Nat.gcd a b)).length with h | h
      · exact absurd (limbs_nil_iff.1 (List.eq_nil_of_length_eq_zero h)) (by omega)
      · exact h
    have hgm : (limbs (Nat.gcd a b)).length ≤ 512 := by
      rcases Nat.eq_zero_or_pos a with h | h
      · rw [h, Nat.gcd_zero_left]; omega
      · exact Nat.le_trans (limbs_mono (Nat.gcd_le_left b h)) (by omega)
    obtain ⟨p1, p2, p3⟩ := gcd_parts hg0
    have q1 := limbs_mono (Nat.div_le_self a (Nat.gcd a b))
    have q2 := limbs_mono (Nat.div_le_self b (Nat.gcd a b))
    have HP1 : Sl _ := ⟨p1⟩
    have HP2 : Sl _ := ⟨p2⟩
    have HP3 : Sl _ := ⟨p3⟩
    clear p1 p2 p3
    generalize Nat.gcd a b = gg at *
    obtain ⟨Ag, cg, hgx, hgA⟩ := HG_4.out
    subst hgx
    have HG_9 : Sl (NV w4 (.slice Ag (limbs gg).length cg) gg) := ⟨Ag, cg, rfl, hgA⟩
    clear HG_4 hgA
    go_wp2_with fail
    refine (DivMod_nv (.slice A n k) (.slice Ag (limbs gg).length cg) (a) (gg) w4 HA_4.out HG_9.out (by omega) (by omega) (by omega)).mono ?_; rintro e w5 ⟨⟨x5, y5, rfl, hx5, hy5⟩, hb5⟩
    have u5 := u4.trans (hb5.mono u4.size)
    have HA_5 : Sl _ := ⟨HA_4.out.below hb5⟩
    have HB_5 : Sl _ := ⟨HB_4.out.below hb5⟩
    have HG_5 : Sl _ := ⟨HG_9.out.below hb5⟩
    have HX_5 : Sl _ := ⟨hx5⟩
    have HR_5 : Sl _ := ⟨hy5⟩
    clear HA_4 HB_4 HG_9 hx5 hy5 hb5 u4
    go_wp2_with fail
    refine (DivMod_nv (.slice B m d) (.slice Ag (limbs gg).length cg) (b) (gg) w5 HB_5.out HG_5.out (by omega) (by omega) (by omega)).mono ?_; rintro e w6 ⟨⟨x6, y6, rfl, hx6, hy6⟩, hb6⟩
    have u6 := u5.trans (hb6.mono u5.size)
    have HA_6 : Sl _ := ⟨HA_5.out.below hb6⟩
    have HB_6 : Sl _ := ⟨HB_5.out.below hb6⟩
    have HG_6 : Sl _ := ⟨HG_5.out.below hb6⟩
    have HX_6 : Sl _ := ⟨HX_5.out.below hb6⟩
    have HR_6 : Sl _ := ⟨HR_5.out.below hb6⟩
    have HY_6 : Sl _ := ⟨hx6⟩
    have HS_6 : Sl _ := ⟨hy6⟩
    clear HA_5 HB_5 HG_5 HX_5 HR_5 hx6 hy6 hb6 u5
    rw [HP1.out] at HR_6
    rw [HP2.out] at HS_6
    go_wp2_with fail
    refine (Gcd_nv x5 x6 ((a) / (gg)) ((b) / (gg)) w6 HX_6.out HY_6.out (by omega) (by omega)).mono ?_; rintro e w7 ⟨⟨x7, rfl, hx7⟩, hb7⟩
    have u7 := u6.trans (hb7.mono u6.size)
    have HA_7 : Sl _ := ⟨HA_6.out.below hb7⟩
    have HB_7 : Sl _ := ⟨HB_6.out.below hb7⟩
    have HG_7 : Sl _ := ⟨HG_6.out.below hb7⟩
    have HX_7 : Sl _ := ⟨HX_6.out.below hb7⟩
    have HR_7 : Sl _ := ⟨HR_6.out.below hb7⟩
    have HY_7 : Sl _ := ⟨HY_6.out.below hb7⟩
    have HS_7 : Sl _ := ⟨HS_6.out.below hb7⟩
    have HO_7 : Sl _ := ⟨hx7⟩
    clear HA_6 HB_6 HG_6 HX_6 HR_6 HY_6 HS_6 hx7 hb7 u6
    rw [HP3.out] at HO_7
    obtain ⟨A5, c5, h5⟩ := nv_zero HR_7.out
    obtain ⟨A6, c6, h6⟩ := nv_zero HS_7.out
    subst h5
    subst h6
    have hal : Below w7.heap.size w7 (w7.alloc (.cells #[.int .u32 1] 49)) := (Below.refl _ _).alloc (Nat.le_refl _) _
    have HS : Sl _ := ⟨same_nv x7 _ 1 _ (HO_7.out.below hal) (nv_lit w7 49) (by have := len_one; omega)⟩
    have ua := u7.trans (hal.mono u7.size)
    have HU : Sl _ := ⟨ua⟩
    clear HA_7 HB_7 HG_7 HX_7 HY_7 HR_7 HS_7 HO_7 hal ua u7
    go_wp2_with fail
    refine HS.out.mono ?_; rintro e wy ⟨rfl, hby⟩
    have uy := HU.out.trans (hby.mono HU.out.size)
    go_wp2_with fail
    refine (HAW wy (HT.out.below uy)).mono ?_; rintro e wz ⟨rfl, hbz⟩
    go_wp2_with fail
    go_ret
    exact ⟨rfl, uy.trans (hbz.mono uy.size)⟩

theorem common_case {A B : Bool} {n m : Nat} (h : ¬ (A = true ∧ B = true ∧ n ≤ 60 ∧ m ≤ 60)) :
    A = false ∨ A = true ∧ B = false ∨ A = true ∧ B = true ∧ 60 < n ∨ A = true ∧ B = true ∧ n ≤ 60 ∧ 60 < m := by
  cases A <;> cases B <;> simp at h ⊢ <;> omega

set_option maxHeartbeats 1600000 in
set_option maxRecDepth 100000 in
theorem common_law (HAW : Awake) (A : Option Addr) (n k : Nat) (la : List Nat) (B : Option Addr) (m d : Nat) (lb : List Nat) (w : World) (ha : Arg w A n k la) (hb : Arg w B m d lb) (ht : Tab10 w) :
    Calls Tryz.prog 5 #[.slice A n k, .slice B m d] w fun e w' => e = .returned (.bool true) ∧ Below w.heap.size w w' := by
  by_cases h : validL la = true ∧ validL lb = true ∧ n ≤ 60 ∧ m ≤ 60
  · obtain ⟨h1, h2, h4, h5⟩ := h
    have e1 := ((validL_iff ha.1.2).1 h1).1
    have e2 := ((validL_iff hb.1.2).1 h2).1
    rw [e1] at ha
    rw [e2] at hb
    exact common_main HAW A n k (valOf la) B m d (valOf lb) w ⟨ha⟩ ⟨hb⟩ h4 h5 ⟨ht⟩
  · have HT : Sl _ := ⟨ht⟩
    have HV1 : Sl _ := ⟨rValid_any A n k la w ha.1 ha.2.1 ha.2.2⟩
    have HV2 : Sl _ := ⟨rValid_any B m d lb w hb.1 hb.2.1 hb.2.2⟩
    have m1 := ha.2
    have m2 := hb.2
    unfold maxLen at m1 m2
    obtain ⟨p1, p2⟩ := m1
    obtain ⟨p3, p4⟩ := m2
    have hcs := common_case h
    clear h ha hb ht
    generalize validL la = va at *
    generalize validL lb = vb at *
    rcases hcs with rfl | ⟨rfl, rfl⟩ | ⟨rfl, rfl, h4⟩ | ⟨rfl, rfl, h4, h5⟩
    all_goals (
      go_enter Tryz.func5, Tryz.ntmps5
      go_wp2_with fail
      refine HV1.out.mono ?_; rintro e w' ⟨rfl, rfl⟩
      go_wp2_with fail
      try (refine HV2.out.mono ?_; rintro e w' ⟨rfl, rfl⟩; go_wp2_with fail)
      refine (HAW w HT.out).mono ?_; rintro e w1 ⟨rfl, hb1⟩
      go_wp2_with fail
      go_ret
      exact ⟨rfl, hb1⟩)
end Go.Proofs.YtgjbaamhpapeeaaGreatDoor
