/- The public functions on values that hold numbers; the law's divides returns true. -/
import Derived.Test.YtgjbaamhpapeeaaDoorLawV
namespace Go.Proofs.YtgjbaamhpapeeaaDoor
open Go.RowKit
set_option linter.unusedVariables false
set_option linter.unusedSimpArgs false

/-- a number and no error -/
def NRes (a : Nat) (e : Ending) (w : World) : Prop := ∃ x, e = .returned (.tuple #[x, .int .i64 0]) ∧ NV w x a
theorem NatRes.nres {a : Nat} {e : Ending} {w : World} (h : NatRes (limbs a) 0 e w) : NRes a e w := by
  obtain ⟨A, c, he, hk⟩ := h.arg rfl
  subst he
  exact ⟨_, rfl, A, c, rfl, hk⟩
theorem Add_nv (v u : Value) (a b : Nat) (w : World) (hv : NV w v a) (hu : NV w u b) (ha : (limbs a).length ≤ 512) (hb : (limbs b).length ≤ 512) (hs : (limbs (a + b)).length ≤ 512) :
    Calls Tryd.prog 35 #[v, u] w fun e w' => NRes (a + b) e w' ∧ Below w.heap.size w w' := by
  obtain ⟨A, c, rfl, h1⟩ := hv
  obtain ⟨B, d, rfl, h2⟩ := hu
  have C := Add_any A B _ _ c d _ _ w h1 h2
  rw [plusS_fit ha hb hs] at C
  exact C.mono fun e w' h => ⟨h.1.nres, h.2⟩
theorem Sub_nv (v u : Value) (a b : Nat) (w : World) (hv : NV w v a) (hu : NV w u b) (ha : (limbs a).length ≤ 512) (hb : (limbs b).length ≤ 512) (hs : b ≤ a) :
    Calls Tryd.prog 37 #[v, u] w fun e w' => NRes (a - b) e w' ∧ Below w.heap.size w w' := by
  obtain ⟨A, c, rfl, h1⟩ := hv
  obtain ⟨B, d, rfl, h2⟩ := hu
  have C := Sub_any A B _ _ c d _ _ w h1 h2
  rw [subS_fit ha hb hs] at C
  exact C.mono fun e w' h => ⟨h.1.nres, h.2⟩
theorem Mul_nv (v u : Value) (a b : Nat) (w : World) (hv : NV w v a) (hu : NV w u b) (ha : (limbs a).length ≤ 512) (hb : (limbs b).length ≤ 512) (hs : (limbs (a * b)).length ≤ 512) :
    Calls Tryd.prog 39 #[v, u] w fun e w' => NRes (a * b) e w' ∧ Below w.heap.size w w' := by
  obtain ⟨A, c, rfl, h1⟩ := hv
  obtain ⟨B, d, rfl, h2⟩ := hu
  have C := Mul_any A B _ _ c d _ _ w h1 h2
  rw [timesS_fit ha hb hs] at C
  exact C.mono fun e w' h => ⟨h.1.nres, h.2⟩
theorem Cmp_nv (v u : Value) (a b : Nat) (w : World) (hv : NV w v a) (hu : NV w u b) (ha : (limbs a).length ≤ 512) (hb : (limbs b).length ≤ 512) :
    Calls Tryd.prog 41 #[v, u] w fun e w' => e = .returned (.tuple #[.int .i64 (cmpN a b), .int .i64 0]) ∧ Below w.heap.size w w' := by
  obtain ⟨A, c, rfl, h1⟩ := hv
  obtain ⟨B, d, rfl, h2⟩ := hu
  have C := Cmp_any A B _ _ c d _ _ w h1 h2
  rw [cmpS_ok ha hb] at C
  exact C
def NRes2 (a b : Nat) (e : Ending) (w : World) : Prop := ∃ x y, e = .returned (.tuple #[x, y, .int .i64 0]) ∧ NV w x a ∧ NV w y b
theorem DivMod_nv (v u : Value) (a b : Nat) (w : World) (hv : NV w v a) (hu : NV w u b) (ha : (limbs a).length ≤ 512) (hb : (limbs b).length ≤ 512) (hs : b ≠ 0) :
    Calls Tryd.prog 13 #[v, u] w fun e w' => NRes2 (a / b) (a % b) e w' ∧ Below w.heap.size w w' := by
  obtain ⟨A, c, rfl, h1⟩ := hv
  obtain ⟨B, d, rfl, h2⟩ := hu
  have C := DivMod_any A B _ _ c d _ _ w h1 h2
  rw [divS_ok ha hb hs] at C
  refine C.mono fun e w' h => ⟨?_, h.2⟩
  obtain ⟨A1, c1, B1, d1, rfl, g1, g2⟩ := h.1
  exact ⟨_, _, rfl, ⟨A1, c1, rfl, g1⟩, B1, d1, rfl, g2⟩
theorem DivMod_none (v u : Value) (a : Nat) (w : World) (hv : NV w v a) (hu : NV w u 0) (ha : (limbs a).length ≤ 512) :
    Calls Tryd.prog 13 #[v, u] w fun e w' => (∃ x y, e = .returned (.tuple #[x, y, .int .i64 4])) ∧ Below w.heap.size w w' := by
  obtain ⟨A, c, rfl, h1⟩ := hv
  obtain ⟨B, d, rfl, h2⟩ := hu
  have C := DivMod_any A B _ _ c d _ _ w h1 h2
  rw [divS_none ha (by rw [limbs_zero]; simp) rfl] at C
  refine C.mono fun e w' h => ⟨?_, h.2⟩
  obtain ⟨A1, c1, B1, d1, rfl, g1, g2⟩ := h.1
  exact ⟨_, _, rfl⟩
theorem same_nv (v u : Value) (a : Nat) (w : World) (hv : NV w v a) (hu : NV w u a) (ha : (limbs a).length ≤ 512) :
    Calls Tryd.prog 17 #[v, u] w fun e w' => e = .returned (.bool true) ∧ Below w.heap.size w w' := by
  obtain ⟨A, c, rfl, h1⟩ := hv
  obtain ⟨B, d, rfl, h2⟩ := hu
  exact same_self A B c d _ w h1.1 h2.1 ha
theorem Of1_nv (w : World) :
    Calls Tryd.prog 28 #[.int .u64 1] w fun e w' => (∃ x, e = .returned x ∧ NV w' x 1) ∧ Below w.heap.size w w' := by
  have C := Of_any 1 w (by decide)
  simp only [Int.natCast_one] at C
  refine C.mono fun e w' h => ⟨?_, h.2⟩
  obtain ⟨A, c, rfl, h1, h2, h3⟩ := h.1
  exact ⟨_, rfl, A, c, rfl, h3, h1, h2⟩

theorem len_one : (limbs 1).length ≤ 1 := limbs_len_le (k := 1) (by decide)
theorem more_div {N C D : Nat} (hD : D ≠ 0) : (N % D + C % D < D → (N + C % D) / D = N / D ∧ (N + C % D) % D = N % D + C % D) ∧ (¬ N % D + C % D < D → (N + C % D) / D = N / D + 1 ∧ (N + C % D) % D = N % D + C % D - D) := by
  have h1 := Nat.div_add_mod N D
  have h2 := Nat.mod_lt C (Nat.pos_of_ne_zero hD)
  have h3 := Nat.mod_lt N (Nat.pos_of_ne_zero hD)
  have e : N + C % D = N / D * D + (N % D + C % D) := by rw [Nat.mul_comm]; omega
  refine ⟨fun h => ?_, fun h => ?_⟩
  · have := div_mod_of e h
    exact ⟨this.1.symm, this.2.symm⟩
  · have e2 : N + C % D = (N / D + 1) * D + (N % D + C % D - D) := by rw [Nat.add_mul, Nat.one_mul]; omega
    have := div_mod_of e2 (by omega)
    exact ⟨this.1.symm, this.2.symm⟩

set_option maxHeartbeats 3200000 in
set_option maxRecDepth 100000 in
theorem divs_main (vn vc : Value) (B : Option Addr) (m d N D C : Nat) (w : World) (HN_0 : Sl (NV w vn N)) (hB : Arg w B m d (limbs D)) (HC_0 : Sl (NV w vc C)) (hD : D ≠ 0) (hNl : (limbs N).length ≤ 300) (hDl : (limbs D).length ≤ 120) (hCl : (limbs C).length ≤ 120) :
    Calls Tryd.prog 47 #[vn, .slice B m d, vc] w fun e w' => e = .returned (.bool true) ∧ Below w.heap.size w w' := by
  have HD_0 : Sl (NV w (.slice B m d) D) := ⟨hB.nv⟩
  have hm := hB.1.len
  have hm0 : m ≠ 0 := by
    intro h
    rw [h] at hm
    exact hD (limbs_nil_iff.1 (List.eq_nil_of_length_eq_zero hm))
  have hmb : ((m : Int) == 0) = false := by rw [beq_eq_false_iff_ne]; omega
  have hmc := hB.2
  unfold maxLen at hmc
  obtain ⟨hmc1, hmc2⟩ := hmc
  have q1 : (limbs (N / D)).length ≤ 300 := Nat.le_trans (limbs_mono (Nat.div_le_self N D)) hNl
  have q2 : (limbs (N % D)).length ≤ 120 := Nat.le_trans (limbs_mono (Nat.le_of_lt (Nat.mod_lt N (Nat.pos_of_ne_zero hD)))) hDl
  have q3 : (limbs (C % D)).length ≤ 120 := Nat.le_trans (limbs_mono (Nat.le_of_lt (Nat.mod_lt C (Nat.pos_of_ne_zero hD)))) hDl
  have q4 : (limbs (N / D * D)).length ≤ 300 := Nat.le_trans (limbs_mono (Nat.div_mul_le_self N D)) hNl
  have q5 : (limbs (N + C % D)).length ≤ 301 := limbs_len_add (M := 300) hNl (by omega)
  have q6 : (limbs (N % D + C % D)).length ≤ 121 := limbs_len_add q2 q3
  have q7 : (limbs (N / D + 1)).length ≤ 301 := limbs_len_add (M := 300) q1 (Nat.le_trans len_one (by decide))
  have e1 : N / D * D + N % D = N := by rw [Nat.mul_comm]; exact Nat.div_add_mod N D
  have q8 : (limbs (N / D * D + N % D)).length ≤ 300 := by rw [e1]; exact hNl
  have hlt : cmpN (N % D) D = -1 := cmpN_lt (Nat.mod_lt N (Nat.pos_of_ne_zero hD))
  have hmd := more_div (N := N) (C := C) hD
  have q9 : (limbs ((N + C % D) / D)).length ≤ 301 := Nat.le_trans (limbs_mono (Nat.div_le_self _ D)) q5
  have q10 : (limbs ((N + C % D) % D)).length ≤ 120 := Nat.le_trans (limbs_mono (Nat.le_of_lt (Nat.mod_lt _ (Nat.pos_of_ne_zero hD)))) hDl
  have E1 : Sl _ := ⟨e1⟩
  have HMD : Sl _ := ⟨hmd⟩
  clear hB hm hm0 e1 hmd
  go_enter Tryd.func47, Tryd.ntmps47
  go_wp2_with fail
  refine (DivMod_nv vn (.slice B m d) (N) (D) w HN_0.out HD_0.out (by omega) (by omega) hD).mono ?_; rintro e w1 ⟨⟨x1, y1, rfl, hx1, hy1⟩, hb1⟩
  have u1 := hb1
  have HN_1 : Sl _ := ⟨HN_0.out.below hb1⟩
  have HD_1 : Sl _ := ⟨HD_0.out.below hb1⟩
  have HC_1 : Sl _ := ⟨HC_0.out.below hb1⟩
  have HQ_1 : Sl _ := ⟨hx1⟩
  have HR_1 : Sl _ := ⟨hy1⟩
  clear HN_0 HD_0 HC_0 hx1 hy1 hb1
  go_wp2_with fail
  refine (Mul_nv x1 (.slice B m d) (N / D) (D) w1 HQ_1.out HD_1.out (by omega) (by omega) (by omega)).mono ?_; rintro e w2 ⟨⟨x2, rfl, hx2⟩, hb2⟩
  have u2 := u1.trans (hb2.mono u1.size)
  have HN_2 : Sl _ := ⟨HN_1.out.below hb2⟩
  have HD_2 : Sl _ := ⟨HD_1.out.below hb2⟩
  have HC_2 : Sl _ := ⟨HC_1.out.below hb2⟩
  have HQ_2 : Sl _ := ⟨HQ_1.out.below hb2⟩
  have HR_2 : Sl _ := ⟨HR_1.out.below hb2⟩
  have HP_2 : Sl _ := ⟨hx2⟩
  clear HN_1 HD_1 HC_1 HQ_1 HR_1 hx2 hb2 u1
  go_wp2_with fail
  refine (Add_nv x2 y1 (N / D * D) ((N) % D) w2 HP_2.out HR_2.out (by omega) (by omega) (by omega)).mono ?_; rintro e w3 ⟨⟨x3, rfl, hx3⟩, hb3⟩
  have u3 := u2.trans (hb3.mono u2.size)
  have HN_3 : Sl _ := ⟨HN_2.out.below hb3⟩
  have HD_3 : Sl _ := ⟨HD_2.out.below hb3⟩
  have HC_3 : Sl _ := ⟨HC_2.out.below hb3⟩
  have HQ_3 : Sl _ := ⟨HQ_2.out.below hb3⟩
  have HR_3 : Sl _ := ⟨HR_2.out.below hb3⟩
  have HP_3 : Sl _ := ⟨HP_2.out.below hb3⟩
  have HS_3 : Sl _ := ⟨hx3⟩
  clear HN_2 HD_2 HC_2 HQ_2 HR_2 HP_2 hx3 hb3 u2
  rw [E1.out] at HS_3
  have CC3 := Cmp_nv y1 (.slice B m d) ((N) % D) (D) w3 HR_3.out HD_3.out (by omega) (by omega)
  rw [hlt] at CC3
  have HCC3 : Sl _ := ⟨CC3⟩
  clear CC3
  go_wp2_with fail
  refine (HCC3.out).mono ?_; rintro e w4 ⟨rfl, hb4⟩
  have u4 := u3.trans (hb4.mono u3.size)
  have HN_4 : Sl _ := ⟨HN_3.out.below hb4⟩
  have HD_4 : Sl _ := ⟨HD_3.out.below hb4⟩
  have HC_4 : Sl _ := ⟨HC_3.out.below hb4⟩
  have HQ_4 : Sl _ := ⟨HQ_3.out.below hb4⟩
  have HR_4 : Sl _ := ⟨HR_3.out.below hb4⟩
  have HP_4 : Sl _ := ⟨HP_3.out.below hb4⟩
  have HS_4 : Sl _ := ⟨HS_3.out.below hb4⟩
  clear HN_3 HD_3 HC_3 HQ_3 HR_3 HP_3 HS_3 hb4 u3
  go_wp2_with fail
  refine (DivMod_nv vc (.slice B m d) (C) (D) w4 HC_4.out HD_4.out (by omega) (by omega) hD).mono ?_; rintro e w5 ⟨⟨x5, y5, rfl, hx5, hy5⟩, hb5⟩
  have u5 := u4.trans (hb5.mono u4.size)
  have HN_5 : Sl _ := ⟨HN_4.out.below hb5⟩
  have HD_5 : Sl _ := ⟨HD_4.out.below hb5⟩
  have HC_5 : Sl _ := ⟨HC_4.out.below hb5⟩
  have HQ_5 : Sl _ := ⟨HQ_4.out.below hb5⟩
  have HR_5 : Sl _ := ⟨HR_4.out.below hb5⟩
  have HP_5 : Sl _ := ⟨HP_4.out.below hb5⟩
  have HS_5 : Sl _ := ⟨HS_4.out.below hb5⟩
  have HX_5 : Sl _ := ⟨hx5⟩
  have HT_5 : Sl _ := ⟨hy5⟩
  clear HN_4 HD_4 HC_4 HQ_4 HR_4 HP_4 HS_4 hx5 hy5 hb5 u4
  go_wp2_with fail
  refine (same_nv x3 vn N w5 HS_5.out HN_5.out (by omega)).mono ?_; rintro e w6 ⟨rfl, hb6⟩
  have u6 := u5.trans (hb6.mono u5.size)
  have HN_6 : Sl _ := ⟨HN_5.out.below hb6⟩
  have HD_6 : Sl _ := ⟨HD_5.out.below hb6⟩
  have HC_6 : Sl _ := ⟨HC_5.out.below hb6⟩
  have HQ_6 : Sl _ := ⟨HQ_5.out.below hb6⟩
  have HR_6 : Sl _ := ⟨HR_5.out.below hb6⟩
  have HP_6 : Sl _ := ⟨HP_5.out.below hb6⟩
  have HS_6 : Sl _ := ⟨HS_5.out.below hb6⟩
  have HX_6 : Sl _ := ⟨HX_5.out.below hb6⟩
  have HT_6 : Sl _ := ⟨HT_5.out.below hb6⟩
  clear HN_5 HD_5 HC_5 HQ_5 HR_5 HP_5 HS_5 HX_5 HT_5 hb6 u5
  go_wp2_with fail
  refine (Add_nv vn y5 (N) ((C) % D) w6 HN_6.out HT_6.out (by omega) (by omega) (by omega)).mono ?_; rintro e w7 ⟨⟨x7, rfl, hx7⟩, hb7⟩
  have u7 := u6.trans (hb7.mono u6.size)
  have HN_7 : Sl _ := ⟨HN_6.out.below hb7⟩
  have HD_7 : Sl _ := ⟨HD_6.out.below hb7⟩
  have HC_7 : Sl _ := ⟨HC_6.out.below hb7⟩
  have HQ_7 : Sl _ := ⟨HQ_6.out.below hb7⟩
  have HR_7 : Sl _ := ⟨HR_6.out.below hb7⟩
  have HP_7 : Sl _ := ⟨HP_6.out.below hb7⟩
  have HS_7 : Sl _ := ⟨HS_6.out.below hb7⟩
  have HX_7 : Sl _ := ⟨HX_6.out.below hb7⟩
  have HT_7 : Sl _ := ⟨HT_6.out.below hb7⟩
  have HM_7 : Sl _ := ⟨hx7⟩
  clear HN_6 HD_6 HC_6 HQ_6 HR_6 HP_6 HS_6 HX_6 HT_6 hx7 hb7 u6
  go_wp2_with fail
  refine (DivMod_nv x7 (.slice B m d) (N + C % D) (D) w7 HM_7.out HD_7.out (by omega) (by omega) hD).mono ?_; rintro e w8 ⟨⟨x8, y8, rfl, hx8, hy8⟩, hb8⟩
  have u8 := u7.trans (hb8.mono u7.size)
  have HN_8 : Sl _ := ⟨HN_7.out.below hb8⟩
  have HD_8 : Sl _ := ⟨HD_7.out.below hb8⟩
  have HC_8 : Sl _ := ⟨HC_7.out.below hb8⟩
  have HQ_8 : Sl _ := ⟨HQ_7.out.below hb8⟩
  have HR_8 : Sl _ := ⟨HR_7.out.below hb8⟩
  have HP_8 : Sl _ := ⟨HP_7.out.below hb8⟩
  have HS_8 : Sl _ := ⟨HS_7.out.below hb8⟩
  have HX_8 : Sl _ := ⟨HX_7.out.below hb8⟩
  have HT_8 : Sl _ := ⟨HT_7.out.below hb8⟩
  have HM_8 : Sl _ := ⟨HM_7.out.below hb8⟩
  have HA_8 : Sl _ := ⟨hx8⟩
  have HZ_8 : Sl _ := ⟨hy8⟩
  clear HN_7 HD_7 HC_7 HQ_7 HR_7 HP_7 HS_7 HX_7 HT_7 HM_7 hx8 hy8 hb8 u7
  go_wp2_with fail
  refine (Add_nv y1 y5 ((N) % D) ((C) % D) w8 HR_8.out HT_8.out (by omega) (by omega) (by omega)).mono ?_; rintro e w9 ⟨⟨x9, rfl, hx9⟩, hb9⟩
  have u9 := u8.trans (hb9.mono u8.size)
  have HN_9 : Sl _ := ⟨HN_8.out.below hb9⟩
  have HD_9 : Sl _ := ⟨HD_8.out.below hb9⟩
  have HC_9 : Sl _ := ⟨HC_8.out.below hb9⟩
  have HQ_9 : Sl _ := ⟨HQ_8.out.below hb9⟩
  have HR_9 : Sl _ := ⟨HR_8.out.below hb9⟩
  have HP_9 : Sl _ := ⟨HP_8.out.below hb9⟩
  have HS_9 : Sl _ := ⟨HS_8.out.below hb9⟩
  have HX_9 : Sl _ := ⟨HX_8.out.below hb9⟩
  have HT_9 : Sl _ := ⟨HT_8.out.below hb9⟩
  have HM_9 : Sl _ := ⟨HM_8.out.below hb9⟩
  have HA_9 : Sl _ := ⟨HA_8.out.below hb9⟩
  have HZ_9 : Sl _ := ⟨HZ_8.out.below hb9⟩
  have HV_9 : Sl _ := ⟨hx9⟩
  clear HN_8 HD_8 HC_8 HQ_8 HR_8 HP_8 HS_8 HX_8 HT_8 HM_8 HA_8 HZ_8 hx9 hb9 u8
  by_cases hVD : N % D + C % D < D
  · have CC9 := Cmp_nv x9 (.slice B m d) (N % D + C % D) (D) w9 HV_9.out HD_9.out (by omega) (by omega)
    rw [cmpN_lt hVD] at CC9
    have HCC9 : Sl _ := ⟨CC9⟩
    clear CC9
    go_wp2_with fail
    refine (HCC9.out).mono ?_; rintro e w10 ⟨rfl, hb10⟩
    have u10 := u9.trans (hb10.mono u9.size)
    have HN_10 : Sl _ := ⟨HN_9.out.below hb10⟩
    have HD_10 : Sl _ := ⟨HD_9.out.below hb10⟩
    have HC_10 : Sl _ := ⟨HC_9.out.below hb10⟩
    have HQ_10 : Sl _ := ⟨HQ_9.out.below hb10⟩
    have HR_10 : Sl _ := ⟨HR_9.out.below hb10⟩
    have HP_10 : Sl _ := ⟨HP_9.out.below hb10⟩
    have HS_10 : Sl _ := ⟨HS_9.out.below hb10⟩
    have HX_10 : Sl _ := ⟨HX_9.out.below hb10⟩
    have HT_10 : Sl _ := ⟨HT_9.out.below hb10⟩
    have HM_10 : Sl _ := ⟨HM_9.out.below hb10⟩
    have HA_10 : Sl _ := ⟨HA_9.out.below hb10⟩
    have HZ_10 : Sl _ := ⟨HZ_9.out.below hb10⟩
    have HV_10 : Sl _ := ⟨HV_9.out.below hb10⟩
    clear HN_9 HD_9 HC_9 HQ_9 HR_9 HP_9 HS_9 HX_9 HT_9 HM_9 HA_9 HZ_9 HV_9 hb10 u9
    rw [(HMD.out.1 hVD).1] at HA_10
    rw [(HMD.out.1 hVD).2] at HZ_10
    go_wp2_with fail
    refine (same_nv x8 x1 (N / D) w10 HA_10.out HQ_10.out (by omega)).mono ?_; rintro e w11 ⟨rfl, hb11⟩
    have u11 := u10.trans (hb11.mono u10.size)
    have HN_11 : Sl _ := ⟨HN_10.out.below hb11⟩
    have HD_11 : Sl _ := ⟨HD_10.out.below hb11⟩
    have HC_11 : Sl _ := ⟨HC_10.out.below hb11⟩
    have HQ_11 : Sl _ := ⟨HQ_10.out.below hb11⟩
    have HR_11 : Sl _ := ⟨HR_10.out.below hb11⟩
    have HP_11 : Sl _ := ⟨HP_10.out.below hb11⟩
    have HS_11 : Sl _ := ⟨HS_10.out.below hb11⟩
    have HX_11 : Sl _ := ⟨HX_10.out.below hb11⟩
    have HT_11 : Sl _ := ⟨HT_10.out.below hb11⟩
    have HM_11 : Sl _ := ⟨HM_10.out.below hb11⟩
    have HA_11 : Sl _ := ⟨HA_10.out.below hb11⟩
    have HZ_11 : Sl _ := ⟨HZ_10.out.below hb11⟩
    have HV_11 : Sl _ := ⟨HV_10.out.below hb11⟩
    clear HN_10 HD_10 HC_10 HQ_10 HR_10 HP_10 HS_10 HX_10 HT_10 HM_10 HA_10 HZ_10 HV_10 hb11 u10
    go_wp2_with fail
    refine (same_nv y8 x9 (N % D + C % D) w11 HZ_11.out HV_11.out (by omega)).mono ?_; rintro e w12 ⟨rfl, hb12⟩
    have u12 := u11.trans (hb12.mono u11.size)
    have HN_12 : Sl _ := ⟨HN_11.out.below hb12⟩
    have HD_12 : Sl _ := ⟨HD_11.out.below hb12⟩
    have HC_12 : Sl _ := ⟨HC_11.out.below hb12⟩
    have HQ_12 : Sl _ := ⟨HQ_11.out.below hb12⟩
    have HR_12 : Sl _ := ⟨HR_11.out.below hb12⟩
    have HP_12 : Sl _ := ⟨HP_11.out.below hb12⟩
    have HS_12 : Sl _ := ⟨HS_11.out.below hb12⟩
    have HX_12 : Sl _ := ⟨HX_11.out.below hb12⟩
    have HT_12 : Sl _ := ⟨HT_11.out.below hb12⟩
    have HM_12 : Sl _ := ⟨HM_11.out.below hb12⟩
    have HA_12 : Sl _ := ⟨HA_11.out.below hb12⟩
    have HZ_12 : Sl _ := ⟨HZ_11.out.below hb12⟩
    have HV_12 : Sl _ := ⟨HV_11.out.below hb12⟩
    clear HN_11 HD_11 HC_11 HQ_11 HR_11 HP_11 HS_11 HX_11 HT_11 HM_11 HA_11 HZ_11 HV_11 hb12 u11
    go_wp2_with fail
    go_ret
    exact ⟨rfl, u12⟩
  · have hcg : 0 ≤ cmpN (N % D + C % D) D := by unfold cmpN; rw [if_neg hVD]; split <;> decide
    have q11 : (limbs (N % D + C % D - D)).length ≤ 121 := Nat.le_trans (limbs_mono (Nat.sub_le _ _)) q6
    have CCv := Cmp_nv x9 (.slice B m d) (N % D + C % D) (D) w9 HV_9.out HD_9.out (by omega) (by omega)
    generalize cmpN (N % D + C % D) D = cc at *
    have HCCv : Sl _ := ⟨CCv⟩
    clear CCv
    go_wp2_with fail
    refine (HCCv.out).mono ?_; rintro e w10 ⟨rfl, hb10⟩
    have u10 := u9.trans (hb10.mono u9.size)
    have HN_10 : Sl _ := ⟨HN_9.out.below hb10⟩
    have HD_10 : Sl _ := ⟨HD_9.out.below hb10⟩
    have HC_10 : Sl _ := ⟨HC_9.out.below hb10⟩
    have HQ_10 : Sl _ := ⟨HQ_9.out.below hb10⟩
    have HR_10 : Sl _ := ⟨HR_9.out.below hb10⟩
    have HP_10 : Sl _ := ⟨HP_9.out.below hb10⟩
    have HS_10 : Sl _ := ⟨HS_9.out.below hb10⟩
    have HX_10 : Sl _ := ⟨HX_9.out.below hb10⟩
    have HT_10 : Sl _ := ⟨HT_9.out.below hb10⟩
    have HM_10 : Sl _ := ⟨HM_9.out.below hb10⟩
    have HA_10 : Sl _ := ⟨HA_9.out.below hb10⟩
    have HZ_10 : Sl _ := ⟨HZ_9.out.below hb10⟩
    have HV_10 : Sl _ := ⟨HV_9.out.below hb10⟩
    clear HN_9 HD_9 HC_9 HQ_9 HR_9 HP_9 HS_9 HX_9 HT_9 HM_9 HA_9 HZ_9 HV_9 hb10 u9
    go_wp2_with fail
    refine (Sub_nv x9 (.slice B m d) (N % D + C % D) (D) w10 HV_10.out HD_10.out (by omega) (by omega) (by omega)).mono ?_; rintro e w11 ⟨⟨x11, rfl, hx11⟩, hb11⟩
    have u11 := u10.trans (hb11.mono u10.size)
    have HN_11 : Sl _ := ⟨HN_10.out.below hb11⟩
    have HD_11 : Sl _ := ⟨HD_10.out.below hb11⟩
    have HC_11 : Sl _ := ⟨HC_10.out.below hb11⟩
    have HQ_11 : Sl _ := ⟨HQ_10.out.below hb11⟩
    have HR_11 : Sl _ := ⟨HR_10.out.below hb11⟩
    have HP_11 : Sl _ := ⟨HP_10.out.below hb11⟩
    have HS_11 : Sl _ := ⟨HS_10.out.below hb11⟩
    have HX_11 : Sl _ := ⟨HX_10.out.below hb11⟩
    have HT_11 : Sl _ := ⟨HT_10.out.below hb11⟩
    have HM_11 : Sl _ := ⟨HM_10.out.below hb11⟩
    have HA_11 : Sl _ := ⟨HA_10.out.below hb11⟩
    have HZ_11 : Sl _ := ⟨HZ_10.out.below hb11⟩
    have HV_11 : Sl _ := ⟨HV_10.out.below hb11⟩
    have HV2_11 : Sl _ := ⟨hx11⟩
    clear HN_10 HD_10 HC_10 HQ_10 HR_10 HP_10 HS_10 HX_10 HT_10 HM_10 HA_10 HZ_10 HV_10 hx11 hb11 u10
    go_wp2_with fail
    refine (Of1_nv w11).mono ?_; rintro e w12 ⟨⟨x12, rfl, hx12⟩, hb12⟩
    have u12 := u11.trans (hb12.mono u11.size)
    have HN_12 : Sl _ := ⟨HN_11.out.below hb12⟩
    have HD_12 : Sl _ := ⟨HD_11.out.below hb12⟩
    have HC_12 : Sl _ := ⟨HC_11.out.below hb12⟩
    have HQ_12 : Sl _ := ⟨HQ_11.out.below hb12⟩
    have HR_12 : Sl _ := ⟨HR_11.out.below hb12⟩
    have HP_12 : Sl _ := ⟨HP_11.out.below hb12⟩
    have HS_12 : Sl _ := ⟨HS_11.out.below hb12⟩
    have HX_12 : Sl _ := ⟨HX_11.out.below hb12⟩
    have HT_12 : Sl _ := ⟨HT_11.out.below hb12⟩
    have HM_12 : Sl _ := ⟨HM_11.out.below hb12⟩
    have HA_12 : Sl _ := ⟨HA_11.out.below hb12⟩
    have HZ_12 : Sl _ := ⟨HZ_11.out.below hb12⟩
    have HV_12 : Sl _ := ⟨HV_11.out.below hb12⟩
    have HV2_12 : Sl _ := ⟨HV2_11.out.below hb12⟩
    have HO_12 : Sl _ := ⟨hx12⟩
    clear HN_11 HD_11 HC_11 HQ_11 HR_11 HP_11 HS_11 HX_11 HT_11 HM_11 HA_11 HZ_11 HV_11 HV2_11 hx12 hb12 u11
    go_wp2_with fail
    refine (Add_nv x1 x12 (N / D) (1) w12 HQ_12.out HO_12.out (by omega) (by have := len_one; omega) (by omega)).mono ?_; rintro e w13 ⟨⟨x13, rfl, hx13⟩, hb13⟩
    have u13 := u12.trans (hb13.mono u12.size)
    have HN_13 : Sl _ := ⟨HN_12.out.below hb13⟩
    have HD_13 : Sl _ := ⟨HD_12.out.below hb13⟩
    have HC_13 : Sl _ := ⟨HC_12.out.below hb13⟩
    have HQ_13 : Sl _ := ⟨HQ_12.out.below hb13⟩
    have HR_13 : Sl _ := ⟨HR_12.out.below hb13⟩
    have HP_13 : Sl _ := ⟨HP_12.out.below hb13⟩
    have HS_13 : Sl _ := ⟨HS_12.out.below hb13⟩
    have HX_13 : Sl _ := ⟨HX_12.out.below hb13⟩
    have HT_13 : Sl _ := ⟨HT_12.out.below hb13⟩
    have HM_13 : Sl _ := ⟨HM_12.out.below hb13⟩
    have HA_13 : Sl _ := ⟨HA_12.out.below hb13⟩
    have HZ_13 : Sl _ := ⟨HZ_12.out.below hb13⟩
    have HV_13 : Sl _ := ⟨HV_12.out.below hb13⟩
    have HV2_13 : Sl _ := ⟨HV2_12.out.below hb13⟩
    have HO_13 : Sl _ := ⟨HO_12.out.below hb13⟩
    have HQ2_13 : Sl _ := ⟨hx13⟩
    clear HN_12 HD_12 HC_12 HQ_12 HR_12 HP_12 HS_12 HX_12 HT_12 HM_12 HA_12 HZ_12 HV_12 HV2_12 HO_12 hx13 hb13 u12
    rw [(HMD.out.2 hVD).1] at HA_13
    rw [(HMD.out.2 hVD).2] at HZ_13
    go_wp2_with fail
    refine (same_nv x8 x13 (N / D + 1) w13 HA_13.out HQ2_13.out (by omega)).mono ?_; rintro e w14 ⟨rfl, hb14⟩
    have u14 := u13.trans (hb14.mono u13.size)
    have HN_14 : Sl _ := ⟨HN_13.out.below hb14⟩
    have HD_14 : Sl _ := ⟨HD_13.out.below hb14⟩
    have HC_14 : Sl _ := ⟨HC_13.out.below hb14⟩
    have HQ_14 : Sl _ := ⟨HQ_13.out.below hb14⟩
    have HR_14 : Sl _ := ⟨HR_13.out.below hb14⟩
    have HP_14 : Sl _ := ⟨HP_13.out.below hb14⟩
    have HS_14 : Sl _ := ⟨HS_13.out.below hb14⟩
    have HX_14 : Sl _ := ⟨HX_13.out.below hb14⟩
    have HT_14 : Sl _ := ⟨HT_13.out.below hb14⟩
    have HM_14 : Sl _ := ⟨HM_13.out.below hb14⟩
    have HA_14 : Sl _ := ⟨HA_13.out.below hb14⟩
    have HZ_14 : Sl _ := ⟨HZ_13.out.below hb14⟩
    have HV_14 : Sl _ := ⟨HV_13.out.below hb14⟩
    have HV2_14 : Sl _ := ⟨HV2_13.out.below hb14⟩
    have HO_14 : Sl _ := ⟨HO_13.out.below hb14⟩
    have HQ2_14 : Sl _ := ⟨HQ2_13.out.below hb14⟩
    clear HN_13 HD_13 HC_13 HQ_13 HR_13 HP_13 HS_13 HX_13 HT_13 HM_13 HA_13 HZ_13 HV_13 HV2_13 HO_13 HQ2_13 hb14 u13
    go_wp2_with fail
    refine (same_nv y8 x11 (N % D + C % D - D) w14 HZ_14.out HV2_14.out (by omega)).mono ?_; rintro e w15 ⟨rfl, hb15⟩
    have u15 := u14.trans (hb15.mono u14.size)
    have HN_15 : Sl _ := ⟨HN_14.out.below hb15⟩
    have HD_15 : Sl _ := ⟨HD_14.out.below hb15⟩
    have HC_15 : Sl _ := ⟨HC_14.out.below hb15⟩
    have HQ_15 : Sl _ := ⟨HQ_14.out.below hb15⟩
    have HR_15 : Sl _ := ⟨HR_14.out.below hb15⟩
    have HP_15 : Sl _ := ⟨HP_14.out.below hb15⟩
    have HS_15 : Sl _ := ⟨HS_14.out.below hb15⟩
    have HX_15 : Sl _ := ⟨HX_14.out.below hb15⟩
    have HT_15 : Sl _ := ⟨HT_14.out.below hb15⟩
    have HM_15 : Sl _ := ⟨HM_14.out.below hb15⟩
    have HA_15 : Sl _ := ⟨HA_14.out.below hb15⟩
    have HZ_15 : Sl _ := ⟨HZ_14.out.below hb15⟩
    have HV_15 : Sl _ := ⟨HV_14.out.below hb15⟩
    have HV2_15 : Sl _ := ⟨HV2_14.out.below hb15⟩
    have HO_15 : Sl _ := ⟨HO_14.out.below hb15⟩
    have HQ2_15 : Sl _ := ⟨HQ2_14.out.below hb15⟩
    clear HN_14 HD_14 HC_14 HQ_14 HR_14 HP_14 HS_14 HX_14 HT_14 HM_14 HA_14 HZ_14 HV_14 HV2_14 HO_14 HQ2_14 hb15 u14
    go_wp2_with fail
    go_ret
    exact ⟨rfl, u15⟩

set_option maxHeartbeats 800000 in
theorem divs_zero (vn vc : Value) (B : Option Addr) (d N : Nat) (w : World) (HN : Sl (NV w vn N)) (hB : Sl (NV w (.slice B 0 d) 0)) (hNl : (limbs N).length ≤ 300) :
    Calls Tryd.prog 47 #[vn, .slice B 0 d, vc] w fun e w' => e = .returned (.bool true) ∧ Below w.heap.size w w' := by
  go_enter Tryd.func47, Tryd.ntmps47
  go_wp2_with fail
  refine (DivMod_none vn (.slice B 0 d) N w HN.out hB.out (by omega)).mono ?_; rintro e w1 ⟨⟨x, y, rfl⟩, hb⟩
  go_wp2_with fail
  go_ret
  exact ⟨rfl, hb⟩
theorem divs_any (vn vc : Value) (B : Option Addr) (m d N D C : Nat) (w : World) (HN : NV w vn N) (hB : Arg w B m d (limbs D)) (HC : NV w vc C) (hNl : (limbs N).length ≤ 300) (hDl : (limbs D).length ≤ 120) (hCl : (limbs C).length ≤ 120) :
    Calls Tryd.prog 47 #[vn, .slice B m d, vc] w fun e w' => e = .returned (.bool true) ∧ Below w.heap.size w w' := by
  by_cases hD : D = 0
  · subst hD
    have hm := hB.1.len
    rw [limbs_zero] at hm
    have h0 : m = 0 := by simpa using hm.symm
    subst h0
    exact divs_zero vn vc B d N w ⟨HN⟩ ⟨hB.nv⟩ hNl
  · exact divs_main vn vc B m d N D C w ⟨HN⟩ hB ⟨HC⟩ hD hNl hDl hCl
end Go.Proofs.YtgjbaamhpapeeaaDoor
