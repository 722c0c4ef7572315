/- The reference: Pow, Root. -/
import Derived.Test.YtgjbaamhpapeeaaDoorLawR
namespace Go.Proofs.YtgjbaamhpapeeaaDoor
open Go.RowKit
set_option linter.unusedVariables false
set_option linter.unusedSimpArgs false

set_option maxHeartbeats 800000 in
theorem rPow_any (A : Option Addr) (n c : Nat) (la : List Nat) (k : Int) (w : World) (ha : Arg w A n c la) :
    Calls Tryd.prog 31 #[.slice A n c, .int .i64 k] w fun e w' => NatRes (powS la k).1 (powS la k).2 e w' ∧ Below w.heap.size w w' := by
  have hck := rbad1 A n c la w 23 ha
  have hu : Below w.heap.size w (w.alloc (.cells #[.slice A n c] 23)) := (Below.refl _ _).alloc (Nat.le_refl _) _
  rcases badE_cases [la] with e | e | e
  · obtain ⟨h1, h2⟩ := ok_one (ha.below hu) (badE_zero.1 e la (by simp))
    rw [e] at hck
    have H : Sl _ := ⟨hck⟩
    by_cases hk : k < 0 ∨ 20000 < k
    · have es : powS la k = ([], 2) := by simp [powS, e, hk]
      rw [es]
      clear hck es e ha h1 h2
      rcases hk with hk | hk
      · go_enter Tryd.func31, Tryd.ntmps31
        go_wp2_with fail
        refine H.out.mono ?_; rintro e w' ⟨rfl, rfl⟩
        go_wp2
        go_ret2
        exact ⟨nat_none _ _, hu⟩
      · have g1 : decide (k < 0) = false := by rw [decide_eq_false_iff_not]; omega
        go_enter Tryd.func31, Tryd.ntmps31
        go_wp2_with fail
        refine H.out.mono ?_; rintro e w' ⟨rfl, rfl⟩
        go_wp2
        go_ret2
        exact ⟨nat_none _ _, hu⟩
    · obtain ⟨j, rfl⟩ := Int.eq_ofNat_of_zero_le (show 0 ≤ k by omega)
      have hp := rpower_any A n c (valOf la) j _ h1 (by omega) (by omega)
      have es : powS la (j : Int) = fitS (valOf la ^ j) := by simp only [powS, e, if_true, if_neg hk, Int.toNat_natCast]
      rw [es]
      generalize valOf la ^ j = x at *
      have HP : Sl _ := ⟨hp⟩
      have g1 : decide ((j : Int) < 0) = false := by simp
      have g2 : decide (20000 < (j : Int)) = false := by rw [decide_eq_false_iff_not]; omega
      clear hck es e ha h1 h2 hp
      by_cases hf : (limbs x).length ≤ 512
      · have ef : fitS x = (limbs x, 0) := by simp only [fitS, if_pos hf]
        rw [ef]
        have HF : Sl _ := ⟨hf⟩
        clear hf ef
        go_enter Tryd.func31, Tryd.ntmps31
        go_wp2_with fail
        refine H.out.mono ?_; rintro e w' ⟨rfl, rfl⟩
        go_wp2_with fail
        refine HP.out.mono ?_; rintro e w' ⟨⟨v, rfl, hv⟩, hb⟩
        rw [decide_eq_true HF.out]
        obtain ⟨A1, c1, hv2, hv3⟩ := hv HF.out
        clear hv
        subst hv2
        have HV : Sl _ := ⟨hv3⟩
        clear hv3
        go_wp2_with fail
        go_ret2
        exact ⟨⟨A1, c1, rfl, HV.out.2.1, HV.out.2.2, HV.out.1⟩, hu.trans (hb.mono hu.size)⟩
      · have ef : fitS x = ([], 3) := by simp only [fitS, if_neg hf]
        rw [ef]
        have HF : Sl _ := ⟨hf⟩
        clear hf ef
        go_enter Tryd.func31, Tryd.ntmps31
        go_wp2_with fail
        refine H.out.mono ?_; rintro e w' ⟨rfl, rfl⟩
        go_wp2_with fail
        refine HP.out.mono ?_; rintro e w' ⟨⟨v, rfl, hv⟩, hb⟩
        rw [decide_eq_false HF.out]
        clear hv
        go_wp2_with fail
        go_ret2
        exact ⟨nat_none _ _, hu.trans (hb.mono hu.size)⟩
  all_goals
    have es : powS la k = ([], badE [la]) := by simp [powS, e]
    rw [es, e]
    rw [e] at hck
    have H : Sl _ := ⟨hck⟩
    clear hck es e ha
    go_enter Tryd.func31, Tryd.ntmps31
    go_wp2_with fail
    refine H.out.mono ?_; rintro e w' ⟨rfl, rfl⟩
    go_wp2
    go_ret2
    exact ⟨nat_none _ _, hu⟩

theorem pow2_len {i M : Nat} (h : i < 32 * M) : (limbs (2 ^ i)).length ≤ M := fit_short' (bitsN_le_iff.2 (Nat.pow_lt_pow_right (by decide) h))
theorem one_shift {i : Nat} (hi : i ≤ 16384) : ∃ y er, shiftS (limbs 1) (i : Int) = (limbs y, er) ∧ (y = 2 ^ i ∧ i < 16384 ∨ y = 0 ∧ i = 16384) := by
  have h1 : limbs 1 = [1] := limbs_one (by decide) (by decide)
  have hv : badE [[1]] = 0 := by decide
  have hb : bitsN 1 = 1 := by decide
  rw [h1]
  have hv1 : valOf [1] = 1 := by simp [valOf]
  have hlt : ∀ x ∈ [1], x < LB := by intro x hx; simp at hx; subst hx; decide
  rcases Nat.lt_or_ge i 16384 with h | h
  · refine ⟨2 ^ i, 0, ?_, .inl ⟨rfl, h⟩⟩
    rw [rShift_fit hv (by omega) (by omega) (.inr (by rw [hv1, hb]; omega)) hlt, if_neg (by omega), hv1, Nat.one_mul, Int.toNat_natCast]
  · refine ⟨0, 3, ?_, .inr ⟨rfl, by omega⟩⟩
    rw [rShift_toolong hv (by omega) (by omega) (by decide) (by rw [hv1, hb]; omega) (by rw [hv1, h1]), limbs_zero]

/-- the root bit by bit: R so far, t bits to come -/
structure RtI (k a R t : Nat) : Prop where
  le : R ^ k ≤ a
  lt : a < (R + 2 ^ t) ^ k
  big : 16384 < t → R = 0
theorem RtI.start {k a N : Nat} (hk : 0 < k) (ha : a < 2 ^ N) : RtI k a 0 (N / k + 1) := by
  refine ⟨by rw [Nat.zero_pow hk]; exact Nat.zero_le _, ?_, fun _ => rfl⟩
  rw [Nat.zero_add, ← Nat.pow_mul]
  refine Nat.lt_of_lt_of_le ha (Nat.pow_le_pow_right (by decide) ?_)
  have := Nat.lt_mul_div_succ N hk
  rw [Nat.mul_comm]
  exact Nat.le_of_lt this
theorem RtI.yes {k a R i y N : Nat} (h : RtI k a R (i+1)) (hk : 0 < k) (hy : y = 2 ^ i ∧ i < 16384 ∨ y = 0 ∧ i = 16384) (ha : a < 2 ^ N) (hN : N ≤ 16384) (hle : (R + y) ^ k ≤ a) : RtI k a (R + y) i := by
  rcases hy with ⟨rfl, hi⟩ | ⟨rfl, hi⟩
  · exact ⟨hle, rootb_up h.lt, fun h => by omega⟩
  · have hR := h.big (by omega)
    subst hR
    refine ⟨hle, ?_, fun _ => rfl⟩
    rw [Nat.add_zero, Nat.zero_add, ← Nat.pow_mul]
    refine Nat.lt_of_lt_of_le ha (Nat.pow_le_pow_right (by decide) ?_)
    have := Nat.le_mul_of_pos_right i hk
    omega
theorem RtI.no {k a R i y : Nat} (h : RtI k a R (i+1)) (hy : y = 2 ^ i ∧ i < 16384 ∨ y = 0 ∧ i = 16384) (hlt : a < (R + y) ^ k) : RtI k a R i := by
  rcases hy with ⟨rfl, hi⟩ | ⟨rfl, hi⟩
  · exact ⟨h.le, hlt, fun h => by omega⟩
  · exact absurd (Nat.lt_of_lt_of_le hlt h.le) (Nat.lt_irrefl _)
theorem long_gt {a p : Nat} (ha : (limbs a).length ≤ 512) (hp : ¬ (limbs p).length ≤ 512) : a < p := by
  rcases Nat.lt_or_ge a p with h | h
  · exact h
  · exact absurd (Nat.le_trans (limbs_mono h) ha) hp
theorem root_le {k a R : Nat} (hk : 0 < k) (h : R ^ k ≤ a) : R ≤ a := Nat.le_trans (Nat.le_self_pow (by omega) R) h

set_option maxHeartbeats 3200000 in
set_option maxRecDepth 100000 in
theorem rRoot_ok (A : Option Addr) (n c a k : Nat) (w : World) (ha : Arg w A n c (limbs a)) (hn : n ≤ 512) (hb : badE [limbs a] = 0) (hk0 : 0 < k) (hk : k ≤ 64) :
    Calls Tryd.prog 33 #[.slice A n c, .int .i64 k] w fun e w' => (∃ x, IsRoot k a x ∧ NatRes (limbs x) 0 e w') ∧ Below w.heap.size w w' := by
  have hck := rbad1 A n c (limbs a) w 23 ha
  rw [hb] at hck
  have H : Sl _ := ⟨hck⟩
  have hu : Below w.heap.size w (w.alloc (.cells #[.slice A n c] 23)) := (Below.refl _ _).alloc (Nat.le_refl _) _
  have HA : Sl _ := ⟨ha.below hu⟩
  have HLA : Sl _ := ⟨ha.1.len⟩
  have hsz := size_any A n c a _ (ha.below hu).1 (by omega)
  have hBn : bitsN a ≤ 32 * n := bitsN_limbs (by rw [ha.1.len]; exact Nat.le_refl _)
  have HBA : Sl _ := ⟨bitsN_lt a⟩
  generalize bitsN a = N at *
  have HSZ : Sl _ := ⟨hsz⟩
  obtain ⟨M, hM⟩ : ∃ M, M = N / k := ⟨_, rfl⟩
  have HM : Sl (RtI k a 0 (M + 1)) := ⟨by rw [hM]; exact RtI.start hk0 HBA.out⟩
  have hMle : M ≤ 16384 := by have := Nat.div_le_self N k; omega
  have hMd : (N : Int) / (k : Int) = (M : Int) := by rw [hM]; simp
  have hMt : (N : Int).tdiv (k : Int) = (M : Int) := by rw [Int.tdiv_eq_ediv_of_nonneg (by omega)]; exact hMd
  have g1 : decide ((k : Int) < 1) = false := by rw [decide_eq_false_iff_not]; omega
  have g2 : decide (64 < (k : Int)) = false := by rw [decide_eq_false_iff_not]; omega
  have g3 : ((k : Int) == 0) = false := by rw [beq_eq_false_iff_ne]; omega
  clear ha hb hck hsz hM
  go_enter Tryd.func33, Tryd.ntmps33
  go_wp2_with fail
  refine H.out.mono ?_; rintro e w' ⟨rfl, rfl⟩
  go_wp2_with fail
  refine HSZ.out.mono ?_; rintro e w' ⟨rfl, q1, rfl⟩
  have hu1 := below_drewN hu q1
  have HA1 : Sl _ := ⟨HA.out.drewN q1⟩
  clear hu HA HSZ H
  generalize (w.alloc (.cells #[.slice A n c] 23)).drewN q1 = w1 at *
  go_wp2_with fail
  go_loopw [7, 8] (fun s7 s8 wr => ∃ t R : Nat, t ≤ M + 1 ∧ s8 = .int .i64 ((t : Int) - 1) ∧ Sl (NV wr s7 R) ∧ Sl (RtI k a R t) ∧ Below w1.heap.size w1 wr) (fun _ s8 _ => (intOf s8 + 1).toNat)
  case atStart => exact ⟨M + 1, 0, Nat.le_refl _, by first | rfl | exact int_eq (by omega), ⟨nv_nil _⟩, HM, Below.refl _ _⟩
  case round =>
    obtain ⟨t, R, ht, rfl, ⟨⟨A7, c7, rfl, hR⟩⟩, HI, hB⟩ := hrel
    have HR : Sl _ := ⟨hR⟩
    clear hR
    rcases t with _ | i
    · have hroot : IsRoot k a R := ⟨HI.out.le, by have := HI.out.lt; simpa using this⟩
      have HRT : Sl _ := ⟨hroot⟩
      clear hroot
      go_wp2_with fail
      go_ret2
      exact ⟨⟨R, HRT.out, A7, c7, rfl, HR.out.2.1, HR.out.2.2, HR.out.1⟩, hu1.trans (hB.mono hu1.size)⟩
    · have ei : (((i + 1 : Nat) : Int) - 1) = (i : Int) := by omega
      have hi4 : i ≤ 16384 := by omega
      obtain ⟨y, er, hsh, hy⟩ := one_shift hi4
      have HY : Sl _ := ⟨hy⟩
      have HSH : Sl _ := ⟨hsh⟩
      have hRl : (limbs R).length ≤ 512 := Nat.le_trans (limbs_mono (root_le hk0 HI.out.le)) (by rw [HLA.out]; exact hn)
      have hyl : (limbs y).length ≤ 512 := by
        rcases hy with ⟨rfl, h⟩ | ⟨rfl, h⟩
        · exact pow2_len (M := 512) (by omega)
        · rw [limbs_zero]; simp
      have HYL : Sl _ := ⟨hyl⟩
      have HRL : Sl _ := ⟨hRl⟩
      have hof := rOf_any 1 wr (by decide)
      simp only [Int.natCast_one] at hof
      have HOF : Sl _ := ⟨hof⟩
      clear hy hsh hRl hyl hof
      go_wp2_with fail
      refine HOF.out.mono ?_; rintro e w2 ⟨⟨A2, c2, rfl, k1, k2, k3⟩, hb2⟩
      have hs2 := rShift_any A2 (limbs 1).length c2 (limbs 1) (i : Int) w2 ⟨k3, k1, k2⟩ (by omega)
      rw [HSH.out] at hs2
      have HS2 : Sl _ := ⟨hs2⟩
      have hB2 := hB.trans (hb2.mono hB.size)
      have HR2 : Sl _ := ⟨HR.out.below hb2⟩
      clear k1 k2 k3 hs2 hb2
      go_wp2_with fail
      refine HS2.out.mono ?_; rintro e w3 ⟨⟨A3, c3, rfl, k1, k2, k3⟩, hb3⟩
      have hB3 := hB2.trans (hb3.mono hB2.size)
      have HR3 : Sl _ := ⟨HR2.out.below hb3⟩
      have hpl := rplus_any A7 A3 (limbs R).length (limbs y).length c7 c3 (limbs R) (limbs y) w3 HR3.out.1 k3 (by have := HRL.out; omega) (by have := HYL.out; omega)
      rw [valOf_limbs, valOf_limbs] at hpl
      have HPL : Sl _ := ⟨hpl⟩
      clear k1 k2 k3 hpl hb3 HS2 HR2
      go_wp2_with fail
      refine HPL.out.mono ?_; rintro e w4 ⟨⟨A4, c4, rfl, k1, k2, k3⟩, hb4⟩
      have hB4 := hB3.trans (hb4.mono hB3.size)
      have HR4 : Sl _ := ⟨HR3.out.below hb4⟩
      have hzl : (limbs (R + y)).length ≤ 513 := limbs_len_add HRL.out HYL.out
      have hpw := rpower_any A4 (limbs (R + y)).length c4 (R + y) k w4 ⟨k3, k1, k2⟩ (by omega) (by omega)
      have HPW : Sl _ := ⟨hpw⟩
      have HT4 : Sl (Arg w4 A4 (limbs (R + y)).length c4 (limbs (R + y))) := ⟨⟨k3, k1, k2⟩⟩
      clear k1 k2 k3 hb4 HPL HR3 hpw hzl
      go_wp2_with fail
      refine HPW.out.mono ?_; rintro e w5 ⟨⟨v, rfl, hv⟩, hb5⟩
      have hB5 := hB4.trans (hb5.mono hB4.size)
      have HR5 : Sl _ := ⟨HR4.out.below hb5⟩
      have HT5 : Sl _ := ⟨HT4.out.below hb5⟩
      clear hb5 HR4 HT4 HPW
      by_cases hf : (limbs ((R + y) ^ k)).length ≤ 512
      · rw [decide_eq_true hf]
        obtain ⟨A5, c5, hv2, hv3⟩ := hv hf
        clear hv
        subst hv2
        have hor := order_any A5 A (limbs ((R + y) ^ k)).length n c5 c (limbs ((R + y) ^ k)) (limbs a) w5 hv3.1 (HA1.out.below hB5).1 (by omega) (by omega)
        rw [valOf_limbs, valOf_limbs] at hor
        by_cases hle : (R + y) ^ k ≤ a
        · have hcc : cmpN ((R + y) ^ k) a ≤ 0 := by
            unfold cmpN
            by_cases h : (R + y) ^ k < a
            · rw [if_pos h]; decide
            · rw [if_neg h, if_neg (by omega)]; decide
          have HNX : Sl _ := ⟨HI.out.yes hk0 HY.out HBA.out (by omega) hle⟩
          generalize cmpN ((R + y) ^ k) a = cc at *
          generalize (limbs ((R + y) ^ k)).length = np at *
          have HOR : Sl _ := ⟨hor⟩
          clear hor hv3 hle hf
          go_wp2_with fail
          refine HOR.out.mono ?_; rintro e w' ⟨rfl, rfl⟩
          go_wp2_with fail
          exact ⟨⟨i, R + y, by omega, by first | rfl | exact int_eq (by omega), ⟨Arg.nv HT5.out⟩, HNX, hB5⟩, by simp [intOf]; try omega⟩
        · have hcc : cmpN ((R + y) ^ k) a = 1 := cmpN_gt (by omega)
          rw [hcc] at hor
          have HNX : Sl _ := ⟨HI.out.no HY.out (by omega)⟩
          generalize (limbs ((R + y) ^ k)).length = np at *
          have HOR : Sl _ := ⟨hor⟩
          clear hor hv3 hle hf hcc
          go_wp2_with fail
          refine HOR.out.mono ?_; rintro e w' ⟨rfl, rfl⟩
          go_wp2_with fail
          exact ⟨⟨i, R, by omega, by first | rfl | exact int_eq (by omega), ⟨Arg.nv HR5.out⟩, HNX, hB5⟩, by simp [intOf]; try omega⟩
      · rw [decide_eq_false hf]
        have HNX : Sl _ := ⟨HI.out.no HY.out (long_gt (by rw [HLA.out]; exact hn) hf)⟩
        clear hv hf
        go_wp2_with fail
        exact ⟨⟨i, R, by omega, by first | rfl | exact int_eq (by omega), ⟨Arg.nv HR5.out⟩, HNX, hB5⟩, by simp [intOf]; try omega⟩

set_option maxHeartbeats 800000 in
theorem rRoot_any (A : Option Addr) (n c : Nat) (la : List Nat) (k : Int) (w : World) (ha : Arg w A n c la) :
    Calls Tryd.prog 33 #[.slice A n c, .int .i64 k] w fun e w' => (∃ l er, RootS la k l er ∧ NatRes l er e w') ∧ Below w.heap.size w w' := by
  have hck := rbad1 A n c la w 23 ha
  have hu : Below w.heap.size w (w.alloc (.cells #[.slice A n c] 23)) := (Below.refl _ _).alloc (Nat.le_refl _) _
  rcases badE_cases [la] with e | e | e
  · by_cases hk : k < 1 ∨ 64 < k
    · have es : RootS la k [] 2 := .inr (.inl ⟨e, hk, rfl, rfl⟩)
      rw [e] at hck
      have H : Sl _ := ⟨hck⟩
      have HE : Sl _ := ⟨es⟩
      clear hck es e ha
      by_cases hk1 : k < 1
      · go_enter Tryd.func33, Tryd.ntmps33
        go_wp2_with fail
        refine H.out.mono ?_; rintro e w' ⟨rfl, rfl⟩
        go_wp2
        go_ret2
        exact ⟨⟨_, _, HE.out, nat_none _ _⟩, hu⟩
      · have hk2 : decide (k < 1) = false := by simpa using hk1
        have hk3 : 64 < k := by omega
        go_enter Tryd.func33, Tryd.ntmps33
        go_wp2_with fail
        refine H.out.mono ?_; rintro e w' ⟨rfl, rfl⟩
        go_wp2
        go_ret2
        exact ⟨⟨_, _, HE.out, nat_none _ _⟩, hu⟩
    · obtain ⟨j, rfl⟩ := Int.eq_ofNat_of_zero_le (show 0 ≤ k by omega)
      obtain ⟨h1, h2⟩ := ok_one ha (badE_zero.1 e la (by simp))
      have heq := ((validL_iff ha.1.2).1 (badE_zero.1 e la (by simp))).1
      have hnl := ha.1.len
      have e2 := e
      rw [heq] at e2
      refine (rRoot_ok A n c (valOf la) j w h1 h2 e2 (by omega) (by omega)).mono ?_
      rintro e' w' ⟨⟨x, hx, hr⟩, hb⟩
      have hxl : (limbs x).length ≤ 512 := val_len ha.1.2 (by omega) (root_le (k := j) (by omega) hx.le)
      refine ⟨⟨limbs x, 0, .inl ⟨e, by omega, by omega, x, by rwa [Int.toNat_natCast], ?_, ?_⟩, hr⟩, hb⟩
      · simp only [fitS, if_pos hxl]
      · simp only [fitS, if_pos hxl]
  all_goals
    have es : RootS la k [] (badE [la]) := .inr (.inr ⟨by rw [e]; decide, rfl, rfl⟩)
    rw [e] at hck es
    have H : Sl _ := ⟨hck⟩
    have HE : Sl _ := ⟨es⟩
    clear hck es e ha
    go_enter Tryd.func33, Tryd.ntmps33
    go_wp2_with fail
    refine H.out.mono ?_; rintro e w' ⟨rfl, rfl⟩
    go_wp2
    go_ret2
    exact ⟨⟨_, _, HE.out, nat_none _ _⟩, hu⟩
theorem RootS.uniq {la : List Nat} {k : Int} {l l' : List Nat} {er er' : Int} (h : RootS la k l er) (g : RootS la k l' er') : l = l' ∧ er = er' := by
  rcases h with ⟨h1, h2, h3, x, hx, rfl, rfl⟩ | ⟨h1, h2, rfl, rfl⟩ | ⟨h1, rfl, rfl⟩
  · rcases g with ⟨g1, g2, g3, y, hy, rfl, rfl⟩ | ⟨g1, g2, rfl, rfl⟩ | ⟨g1, rfl, rfl⟩
    · have := hx.uniq hy
      subst this
      exact ⟨rfl, rfl⟩
    · omega
    · exact absurd h1 g1
  · rcases g with ⟨g1, g2, g3, y, hy, rfl, rfl⟩ | ⟨g1, g2, rfl, rfl⟩ | ⟨g1, rfl, rfl⟩
    · omega
    · exact ⟨rfl, rfl⟩
    · exact absurd h1 g1
  · rcases g with ⟨g1, g2, g3, y, hy, rfl, rfl⟩ | ⟨g1, g2, rfl, rfl⟩ | ⟨g1, rfl, rfl⟩
    · exact absurd g1 h1
    · exact absurd g1 h1
    · exact ⟨rfl, rfl⟩
theorem RootS.len {la : List Nat} {k : Int} {l : List Nat} {er : Int} (h : RootS la k l er) : l.length ≤ 512 := by
  rcases h with ⟨_, _, _, x, _, rfl, _⟩ | ⟨_, _, rfl, _⟩ | ⟨_, rfl, _⟩
  · unfold fitS
    split
    · assumption
    · simp
  · simp
  · simp
end Go.Proofs.YtgjbaamhpapeeaaDoor
