/- Package ratios: log: bounds of a logarithm. -/
import Derived.Test.YtalodfjplegibaaGreatDoorRatA
import Derived.Test.YtalodfjplegibaaGreatDoorRatB
import Derived.Test.YtalodfjplegibaaGreatDoorMixQ
namespace Go.Proofs.YtalodfjplegibaaGreatDoor
set_option linter.unusedSimpArgs false
open Go.RowKit
set_option linter.unusedVariables false

theorem fits {x m : Nat} (q : Nat) (hm : m ≤ 32 * q) (h : x < 2 ^ m) : (limbs x).length ≤ q := by
  refine limbs_len_le (Nat.lt_of_lt_of_le h ?_)
  rw [show LB = 2 ^ 32 by decide, ← Nat.pow_mul]
  exact Nat.pow_le_pow_right (by decide) hm
theorem sat_eq {x m : Nat} (hm : m ≤ 16384) (h : x < 2 ^ m) : sat x = x := by
  unfold sat
  rw [if_pos (fits 512 (by omega) h)]
theorem shN_up (a n : Nat) : shN a (n : Int) = a * 2 ^ n := by
  unfold shN
  rw [if_neg (by omega), Int.toNat_natCast]
theorem shN_down (a : Nat) {n : Nat} (hn : 0 < n) : shN a (-(n : Int)) = a / 2 ^ n := by
  unfold shN
  rw [if_pos (by omega), show (- -(n : Int)).toNat = n by omega]
theorem movN_false (a : Nat) (z : Int) : movN a z false = sat (shN a z) := by simp [movN]
theorem mov_up {a n m : Nat} (hm : m ≤ 16384) (h : a * 2 ^ n < 2 ^ m) : movN a (n : Int) false = a * 2 ^ n := by
  rw [movN_false, shN_up, sat_eq hm h]
theorem mov_down {u n m : Nat} (hn : 0 < n) (hm : m ≤ 16384) (h : u < 2 ^ m) : movN u (-(n : Int)) false = u / 2 ^ n := by
  rw [movN_false, shN_down u hn, sat_eq hm (Nat.lt_of_le_of_lt (Nat.div_le_self _ _) h)]
theorem mov_down_up {u n m : Nat} (hn : 0 < n) (hm : m ≤ 16383) (h : u < 2 ^ m) : movN u (-(n : Int)) true = cdiv u (2 ^ n) := by
  have hd := Nat.div_le_self u (2 ^ n)
  have hp : 0 < 2 ^ n := Nat.pow_pos (by decide)
  have hm1 := Nat.div_add_mod u (2 ^ n)
  have hm2 := Nat.mod_lt u hp
  have hms : (2 : Nat) ^ (m + 1) = 2 ^ m + 2 ^ m := by rw [Nat.pow_succ]; omega
  have e1 : movN u (-(n : Int)) true = if sat (shN (sat (shN u (-(n : Int)))) (- -(n : Int))) < u then sat (sat (shN u (-(n : Int))) + 1) else sat (shN u (-(n : Int))) := by simp [movN]
  rw [e1, Int.neg_neg, shN_down u hn, shN_up, sat_eq (m := m) (by omega) (Nat.lt_of_le_of_lt hd h), sat_eq (m := m) (by omega) (Nat.lt_of_le_of_lt (Nat.div_mul_le_self _ _) h)]
  unfold cdiv
  rw [Nat.mul_comm] at hm1
  by_cases h0 : u % 2 ^ n = 0
  · rw [if_neg (by omega), if_pos h0, Nat.add_zero]
  · rw [if_pos (by omega), if_neg h0, sat_eq (m := m + 1) (by omega) (by omega)]
theorem cdiv_lt2 {b D : Nat} (hD : 0 < D) (h4 : b < 2 * D) : cdiv (cdiv (b * b) D) 2 < 2 * D := by
  have hb : b * b + 4 * D ≤ 4 * D * D + 1 := by
    obtain ⟨c, hc⟩ : ∃ c, 2 * D = b + 1 + c := ⟨2 * D - b - 1, by omega⟩
    have e1 : (2 * D) * (2 * D) = (b + 1 + c) * (b + 1 + c) := by rw [hc]
    have e2 : (b + 1 + c) * (b + 1 + c) = b * b + 2 * b + 1 + 2 * b * c + 2 * c + c * c := by
      simp only [Nat.add_mul, Nat.mul_add, Nat.one_mul, Nat.mul_one, Nat.two_mul]
      have := Nat.mul_comm b c
      omega
    have e3 : (2 * D) * (2 * D) = 4 * D * D := by
      rw [Nat.mul_assoc 2 D, Nat.mul_left_comm D 2 D, ← Nat.mul_assoc, Nat.mul_assoc 4]
    omega
  have hc1 : cdiv (b * b) D ≤ 4 * D - 3 := by
    refine cdiv_le hD ?_
    have : (4 * D - 3) * D + 3 * D = 4 * D * D := by
      rw [← Nat.add_mul]; congr 1; omega
    omega
  have hc2 : cdiv (cdiv (b * b) D) 2 ≤ 2 * D - 1 := cdiv_le (by decide) (by omega)
  omega
theorem two_pow_succ (d : Nat) : 2 * 2 ^ d = 2 ^ (d + 1) := by rw [Nat.pow_succ, Nat.mul_comm]
theorem sqD_lt {a d : Nat} (h : a < 2 * 2 ^ d) : a * a < 2 ^ (2 * d + 2) := by
  rw [two_pow_succ] at h
  have e : (2 : Nat) ^ (2 * d + 2) = 2 ^ (d + 1) * 2 ^ (d + 1) := by rw [← Nat.pow_add]; congr 1; omega
  rw [e]
  exact Nat.mul_lt_mul'' h h
theorem half_lt {a d : Nat} (h : a < 2 * 2 ^ d) : a * a / 2 ^ d / 2 < 2 * 2 ^ d := by
  have hp : 0 < 2 ^ d := Nat.pow_pos (by decide)
  have h1 : a * a / 2 ^ d < 4 * 2 ^ d := by
    rw [Nat.div_lt_iff_lt_mul hp]
    have := Nat.mul_lt_mul'' h h
    have e : 2 * 2 ^ d * (2 * 2 ^ d) = 4 * 2 ^ d * 2 ^ d := by
      rw [Nat.mul_assoc 2 (2 ^ d), Nat.mul_left_comm (2 ^ d) 2, ← Nat.mul_assoc, Nat.mul_assoc 4]
    omega
  omega
theorem cdiv_small {u v : Nat} : cdiv u v ≤ u + 1 := by
  have := Nat.div_le_self u v
  unfold cdiv; split <;> omega
theorem lgL_one {D r a b s : Nat} (h : 2 * D ≤ a * a / D) : lgL D (r + 1) a b s = lgL D r (a * a / D / 2) (cdiv (cdiv (b * b) D) 2) (2 * s + 1) := by rw [lgL, if_pos h]
theorem lgL_stop {D r a b s : Nat} (h : ¬ 2 * D ≤ a * a / D) (h2 : 2 * D ≤ cdiv (b * b) D) : lgL D (r + 1) a b s = (s * 2 ^ (r + 1), (s + 1) * 2 ^ (r + 1)) := by rw [lgL, if_neg h, if_pos h2]
theorem lgL_zero {D r a b s : Nat} (h : ¬ 2 * D ≤ a * a / D) (h2 : ¬ 2 * D ≤ cdiv (b * b) D) : lgL D (r + 1) a b s = lgL D r (a * a / D) (cdiv (b * b) D) (2 * s) := by rw [lgL, if_neg h, if_neg h2]
theorem pow_succ2 (m : Nat) : (2 : Nat) ^ (m + 1) = 2 ^ m + 2 ^ m := by rw [Nat.pow_succ]; omega
theorem step_facts {d P j a b s : Nat} (hd : 0 < d) (hdm : d ≤ 4200) (hP : P ≤ 2048) (hj : j < P) (hal : a < 2 * 2 ^ d) (hbl : b < 2 * 2 ^ d) (hsl : s < 2 ^ (j + 6)) :
    (sat (a * a) = a * a ∧ sat (b * b) = b * b ∧ movN (a * a) (-(d : Int)) false = a * a / 2 ^ d ∧ movN (b * b) (-(d : Int)) true = cdiv (b * b) (2 ^ d)) ∧
    (movN (a * a / 2 ^ d) (-1) false = a * a / 2 ^ d / 2 ∧ movN (cdiv (b * b) (2 ^ d)) (-1) true = cdiv (cdiv (b * b) (2 ^ d)) 2) ∧
    (∀ q : Nat, q ≤ 1 → movN s 1 false = s * 2 ^ 1 ∧ sat (s * 2 ^ 1 + q) = 2 * s + q) ∧ 2 * s + 1 < 2 ^ (j + 1 + 6) ∧ a * a / 2 ^ d / 2 < 2 * 2 ^ d ∧ cdiv (cdiv (b * b) (2 ^ d)) 2 < 2 * 2 ^ d := by
  have hq1 := sqD_lt hal
  have hq2 := sqD_lt hbl
  have hm : 2 * d + 2 ≤ 16000 := by omega
  have e := pow_succ2 (2 * d + 2)
  have hxs : a * a / 2 ^ d < 2 ^ (2 * d + 2 + 1) := by
    have := Nat.div_le_self (a * a) (2 ^ d)
    rw [e]
    generalize (2 : Nat) ^ (2 * d + 2) = z at *
    omega
  have hys : cdiv (b * b) (2 ^ d) < 2 ^ (2 * d + 2 + 1) := by
    have := cdiv_small (u := b * b) (v := 2 ^ d)
    rw [e]
    generalize (2 : Nat) ^ (2 * d + 2) = z at *
    omega
  have e6 := pow_succ2 (j + 6)
  have hs7 : 2 * s + 1 < 2 ^ (j + 6 + 1) := by
    rw [e6]
    generalize (2 : Nat) ^ (j + 6) = z at *
    omega
  have m1 := mov_down (n := 1) (by decide) (m := 2 * d + 2 + 1) (by omega) hxs
  have m2 := mov_down_up (n := 1) (by decide) (m := 2 * d + 2 + 1) (by omega) hys
  refine ⟨⟨sat_eq (m := 2 * d + 2) (by omega) hq1, sat_eq (m := 2 * d + 2) (by omega) hq2, mov_down hd (m := 2 * d + 2) (by omega) hq1, mov_down_up hd (m := 2 * d + 2) (by omega) hq2⟩, ⟨m1, m2⟩, fun q hq => ?_, by rw [show j + 1 + 6 = j + 6 + 1 by omega]; exact hs7, half_lt hal, cdiv_lt2 (Nat.pow_pos (by decide)) hbl⟩
  have e2 : s * 2 ^ 1 = 2 * s := by omega
  refine ⟨mov_up (n := 1) (m := j + 6 + 1) (by omega) (by rw [e2]; exact Nat.lt_of_le_of_lt (Nat.le_succ _) hs7), ?_⟩
  rw [e2]
  exact sat_eq (m := j + 6 + 1) (by omega) (Nat.lt_of_le_of_lt (Nat.add_le_add_left hq _) hs7)
theorem stop_facts {P j r s : Nat} (hP : P ≤ 2048) (hj : j < P) (hr : P - j = r + 1) (hs : s < 2 ^ (j + 6)) :
    movN s ((r + 1 : Nat) : Int) false = s * 2 ^ (r + 1) ∧ sat (s + 1) = s + 1 ∧ movN (s + 1) ((r + 1 : Nat) : Int) false = (s + 1) * 2 ^ (r + 1) := by
  have e : (2 : Nat) ^ (P + 6) = 2 ^ (j + 6) * 2 ^ (r + 1) := by rw [← Nat.pow_add]; congr 1; omega
  have h1 : (s + 1) * 2 ^ (r + 1) ≤ 2 ^ (P + 6) := by rw [e]; exact Nat.mul_le_mul_right _ hs
  have h2 : s * 2 ^ (r + 1) ≤ (s + 1) * 2 ^ (r + 1) := Nat.mul_le_mul_right _ (Nat.le_succ _)
  have h3 : (2 : Nat) ^ (P + 6) < 2 ^ (P + 6 + 1) := Nat.pow_lt_pow_right (by decide) (Nat.lt_succ_self _)
  have h4 : (2 : Nat) ^ (j + 6) < 2 ^ (j + 6 + 1) := Nat.pow_lt_pow_right (by decide) (Nat.lt_succ_self _)
  exact ⟨mov_up (m := P + 6 + 1) (by omega) (Nat.lt_of_le_of_lt (Nat.le_trans h2 h1) h3), sat_eq (m := j + 6 + 1) (by omega) (Nat.lt_of_le_of_lt hs h4), mov_up (m := P + 6 + 1) (by omega) (Nat.lt_of_le_of_lt h1 h3)⟩
theorem Num.fit {w : World} {v : Value} {a b : Nat} (h : Num w v a) (e : a = b) : Num w v b := e ▸ h
/-- log's bounds, by whether n is a power of 2 -/
def lgc (c : Bool) (n k P : Nat) : Nat × Nat :=
  if c then (k * 2 ^ P, k * 2 ^ P) else lgL (2 ^ (2 * P + 64)) P (n * 2 ^ (2 * P + 64 - k)) (n * 2 ^ (2 * P + 64 - k)) k
def TwoNum (w : World) (e : Ending) (x : Nat × Nat) : Prop := ∃ v u, e = .returned (.tuple #[v, u]) ∧ Num w v x.1 ∧ Num w u x.2
set_option maxHeartbeats 6400000 in
set_option maxRecDepth 100000 in
theorem log_any (n k P : Nat) (c : Bool) (w : World) (h1 : 1 ≤ n) (h2 : n < 1000000000000000) (hk : Lib.bitLen n = k + 1) (hk2 : k ≤ 50) (hn : n < 2 ^ (k + 1)) (hP : P ≤ 2048) (hc : (bits .and .i64 (n : Int) ((n : Int) - 1) == 0) = c) :
    Calls Tryz.prog 77 #[.int .i64 n, .int .i64 P] w fun e w' => TwoNum w' e (lgc c n k P) ∧ Below w.heap.size w w' := by
  have hbl := Tryz.bits_Len64 (n : Int) w (by omega) (by omega)
  have e0 : ((n : Int)).toNat = n := by omega
  rw [e0, hk] at hbl
  have HBL : Sl _ := ⟨hbl⟩
  clear hbl e0 hk
  have HN : Sl _ := ⟨hn⟩
  clear hn
  cases c
  · go_enter Tryz.func77, Tryz.ntmps77
    go_wp2_with fail
    refine HBL.out.mono ?_; rintro e w' ⟨rfl, rfl⟩
    clear HBL
    go_wp2_with fail
    refine (number_any k _ (by omega)).mono ?_; rintro e w1 ⟨⟨v0, rfl, hv0⟩, hb1⟩
    go_wp2_with fail
    refine (moved_any v0 k (P : Int) false w1 hv0 (by omega) (by omega)).mono ?_; rintro e w2 ⟨⟨v1, rfl, hv1⟩, hb2⟩
    have u2 := hb1.trans (hb2.mono hb1.size)
    clear hv0 hv1 hb1 hb2
    go_wp2_with fail
    refine (number_any n w2 (by omega)).mono ?_; rintro e w3 ⟨⟨v2, rfl, hv2⟩, hb3⟩
    go_wp2_with fail
    refine (moved_any v2 n (2 * (P : Int) + 64 - k) false w3 hv2 (by omega) (by omega)).mono ?_; rintro e w4 ⟨⟨v3, rfl, hv3⟩, hb4⟩
    have u4 := (u2.trans (hb3.mono u2.size)).trans (hb4.mono (Nat.le_trans u2.size hb3.size))
    clear hv2 hb3 hb4 u2
    go_wp2_with fail
    refine (number_any 2 w4 (by decide)).mono ?_; rintro e w5 ⟨⟨v4, rfl, hv4⟩, hb5⟩
    go_wp2_with fail
    refine (moved_any v4 2 (2 * (P : Int) + 64) false w5 hv4 (by omega) (by omega)).mono ?_; rintro e w6 ⟨⟨v5, rfl, hv5⟩, hb6⟩
    have hb56 := hb5.trans (hb6.mono hb5.size)
    have u6 := u4.trans (hb56.mono u4.size)
    have hv3' := hv3.below hb56
    clear hv4 hb5 hb6 u4 hv3 hb56
    go_wp2_with fail
    refine (number_any k w6 (by omega)).mono ?_; rintro e w7 ⟨⟨v6, rfl, hv6⟩, hb7⟩
    have u7 := u6.trans (hb7.mono u6.size)
    have hv3 := hv3'.below hb7
    have hv5' := hv5.below hb7
    clear hv3' hv5 u6 hb7
    go_wp2_with fail
    have hd : 2 * (P : Int) + 64 = ((2 * P + 64 : Nat) : Int) := by omega
    have hdk : 2 * (P : Int) + 64 - k = ((2 * P + 64 - k : Nat) : Int) := by omega
    have hn2 : n * 2 ^ (2 * P + 64 - k) < 2 * 2 ^ (2 * P + 64) := by
      have h := HN.out
      have e : 2 * 2 ^ (2 * P + 64) = 2 ^ (k + 1) * 2 ^ (2 * P + 64 - k) := by rw [two_pow_succ, ← Nat.pow_add]; congr 1; omega
      rw [e]
      exact Nat.mul_lt_mul_of_pos_right h (Nat.pow_pos (by decide))
    have hA : Num w7 v3 (n * 2 ^ (2 * P + 64 - k)) := hv3.fit (by rw [hdk]; exact mov_up (m := 2 * P + 65) (by omega) (by rw [two_pow_succ] at hn2; exact hn2))
    have hT : Num w7 v5 (2 * 2 ^ (2 * P + 64)) := hv5'.fit (by rw [hd]; exact mov_up (m := 2 * P + 66) (by omega) (by rw [two_pow_succ]; exact Nat.pow_lt_pow_right (by decide) (by omega)))
    have HST : Sl _ := ⟨And.intro u7 (And.intro hA (And.intro hv6 (And.intro hT hn2)))⟩
    clear hv3 hv5' hv6 u7 hA hT hn2 hd hdk hc
    go_loopw [9, 10, 12, 13] (fun s9 s10 s12 s13 wr => ∃ (va vb vs : Value) (a b s at' : Nat), at' ≤ P ∧ s9 = va ∧ s10 = vb ∧ s12 = vs ∧ s13 = .int .i64 at' ∧ Sl (Below w'.heap.size w' wr ∧ Num wr va a ∧ Num wr vb b ∧ Num wr vs s ∧ Num wr v5 (2 * 2 ^ (2 * P + 64)) ∧ a < 2 * 2 ^ (2 * P + 64) ∧ b < 2 * 2 ^ (2 * P + 64) ∧ s < 2 ^ (at' + 6) ∧ lgL (2 ^ (2 * P + 64)) (P - at') a b s = lgc false n k P)) (fun _ _ _ s13 _ => P - (RowKit.intOf s13).toNat)
    case atStart => exact ⟨v3, v3, v6, _, _, k, 0, Nat.zero_le _, rfl, rfl, rfl, rfl, ⟨HST.out.1, HST.out.2.1, HST.out.2.1, HST.out.2.2.1, HST.out.2.2.2.1, HST.out.2.2.2.2, HST.out.2.2.2.2, by omega, rfl⟩⟩
    case round =>
      clear HST
      obtain ⟨va, vb, vs, a, b, s, j, hj, rfl, rfl, rfl, rfl, HR⟩ := hrel
      obtain ⟨hB, hva, hvb, hvs, hvt, hal, hbl, hsl, hlg⟩ := HR.out
      by_cases hjP : j < P
      · obtain ⟨r, hr⟩ : ∃ r, P - j = r + 1 := ⟨P - j - 1, by omega⟩
        have hr2 : P - (j + 1) = r := by omega
        have hr3 : (P : Int) - j = ((r + 1 : Nat) : Int) := by omega
        rw [hr] at hlg
        have hd : -(2 * (P : Int) + 64) = -((2 * P + 64 : Nat) : Int) := by omega
        obtain ⟨hM1, hM2, hM3, hSL, hxl, hyl⟩ := step_facts (d := 2 * P + 64) (Nat.succ_pos _) (by omega) hP hjP hal hbl hsl
        have hSF := stop_facts hP hjP hr hsl
        rw [← hr3] at hSF
        have HSF : Sl _ := ⟨hSF⟩
        rw [← hd] at hM1
        have HM3 : Sl _ := ⟨hM3⟩
        have HSL : Sl _ := ⟨hSL⟩
        obtain ⟨x, hx⟩ : ∃ x, a * a / 2 ^ (2 * P + 64) = x := ⟨_, rfl⟩
        obtain ⟨y, hy⟩ : ∃ y, cdiv (b * b) (2 ^ (2 * P + 64)) = y := ⟨_, rfl⟩
        obtain ⟨T, hTT⟩ : ∃ T, 2 * 2 ^ (2 * P + 64) = T := ⟨_, rfl⟩
        rw [hx, hy] at hM1 hM2
        rw [hx] at hxl
        rw [hy] at hyl
        have HM1 : Sl _ := ⟨hM1⟩
        have HM2 : Sl _ := ⟨hM2⟩
        rw [hTT] at hvt hxl hyl
        have HXY : Sl _ := ⟨And.intro hx (And.intro hy (And.intro hTT (And.intro hxl hyl)))⟩
        have HLG : Sl _ := ⟨And.intro hlg (And.intro hal hbl)⟩
        have HV : Sl _ := ⟨And.intro hB (And.intro hvs hvt)⟩
        have HRR : Sl _ := ⟨And.intro hr (And.intro hr2 hr3)⟩
        clear hSF hr hr2 hr3 hd hlg hxl hyl hx hy hTT hM1 hM2 hM3 hSL hal hbl hsl HR hB hvs hvt
        go_wp2_with fail
        refine (mul_any u9 u9 a a wr hva hva).mono ?_; rintro e x1 ⟨⟨q1, rfl, hq1⟩, hb1⟩
        have hr1 := hq1.fit HM1.out.1
        clear hq1
        go_wp2_with fail
        refine (moved_any q1 (a * a) (-(2 * (P : Int) + 64)) false x1 hr1 (by omega) (by omega)).mono ?_; rintro e x2 ⟨⟨q2, rfl, hq2⟩, hb2⟩
        have hr2' := hq2.fit HM1.out.2.2.1
        have g2 := hb1.trans (hb2.mono hb1.size)
        have hvb2 := hvb.below g2
        clear hq2 hr1 hvb hva hb1 hb2
        go_wp2_with fail
        refine (mul_any u10 u10 b b x2 hvb2 hvb2).mono ?_; rintro e x3 ⟨⟨q3, rfl, hq3⟩, hb3⟩
        have hr1 := hq3.fit HM1.out.2.1
        clear hq3
        go_wp2_with fail
        refine (moved_any q3 (b * b) (-(2 * (P : Int) + 64)) true x3 hr1 (by omega) (by omega)).mono ?_; rintro e x4 ⟨⟨q4, rfl, hq4⟩, hb4⟩
        have hy4 := hq4.fit HM1.out.2.2.2
        have hb34 := hb3.trans (hb4.mono hb3.size)
        have hx4 := hr2'.below hb34
        have g4 := g2.trans (hb34.mono g2.size)
        have hvt4 := HV.out.2.2.below g4
        clear hq4 hr1 hvb2 hb3 hb4 hr2' g2 hb34
        go_wp2_with fail
        refine (above_any v5 q2 T x x4 hvt4 hx4).mono ?_; rintro e x5 ⟨rfl, hb5⟩
        have g5 := g4.trans (hb5.mono g4.size)
        have hx5 := hx4.below hb5
        have hy5 := hy4.below hb5
        clear hx4 hy4 hvt4 g4 hb5
        by_cases hA : T ≤ x
        · have hd1 : decide (x < T) = false := decide_eq_false (by omega)
          rw [hd1]
          clear hd1
          go_wp2_with fail
          refine (moved_any q2 x (-1) false x5 hx5 (by decide) (by decide)).mono ?_; rintro e x6 ⟨⟨q6, rfl, hq6⟩, hb6⟩
          have hr6 := hq6.fit HM2.out.1
          have hy6 := hy5.below hb6
          have g6 := g5.trans (hb6.mono g5.size)
          clear hq6 hx5 hy5 hb6 g5
          go_wp2_with fail
          refine (moved_any q4 y (-1) true x6 hy6 (by decide) (by decide)).mono ?_; rintro e x7 ⟨⟨q7, rfl, hq7⟩, hb7⟩
          have hr7 := hq7.fit HM2.out.2
          have hr67 := hr6.below hb7
          have g7 := g6.trans (hb7.mono g6.size)
          have hs7 := HV.out.2.1.below g7
          clear hq7 hr6 hy6 hb7 g6
          go_wp2_with fail
          refine (moved_any u12 s 1 false x7 hs7 (by decide) (by decide)).mono ?_; rintro e x8 ⟨⟨q8, rfl, hq8⟩, hb8⟩
          have hr8 := hq8.fit (HM3.out 1 (by decide)).1
          go_wp2_with fail
          refine (number_any 1 x8 (by decide)).mono ?_; rintro e x9 ⟨⟨q9, rfl, hq9⟩, hb9⟩
          have hr89 := hr8.below hb9
          go_wp2_with fail
          refine (add_any q8 q9 (s * 2 ^ 1) 1 x9 hr89 hq9).mono ?_; rintro e x10 ⟨⟨q10, rfl, hq10⟩, hb10⟩
          have hr10 := hq10.fit (HM3.out 1 (by decide)).2
          have hb810 := (hb8.trans (hb9.mono hb8.size)).trans (hb10.mono (Nat.le_trans hb8.size hb9.size))
          have g10 := g7.trans (hb810.mono g7.size)
          have hfin : Sl (Below w'.heap.size w' x10 ∧ Num x10 q6 (x / 2) ∧ Num x10 q7 (cdiv y 2) ∧ Num x10 q10 (2 * s + 1) ∧ Num x10 v5 (2 * 2 ^ (2 * P + 64)) ∧ x / 2 < 2 * 2 ^ (2 * P + 64) ∧ cdiv y 2 < 2 * 2 ^ (2 * P + 64) ∧ 2 * s + 1 < 2 ^ (j + 1 + 6) ∧ lgL (2 ^ (2 * P + 64)) (P - (j + 1)) (x / 2) (cdiv y 2) (2 * s + 1) = lgc false n k P) := ⟨by
            obtain ⟨e1, e2, e3, e4, e5⟩ := HXY.out
            rw [e3, HRR.out.2.1]
            refine ⟨HV.out.1.trans (g10.mono HV.out.1.size), hr67.below hb810, hr7.below hb810, hr10, HV.out.2.2.below g10, e4, e5, HSL.out, ?_⟩
            rw [← HLG.out.1, lgL_one (by rw [e1, e3]; exact hA), e1, e2]⟩
          clear hr67 hr7 hs7 hq8 hb8 hr8 hq9 hb9 hr89 hq10 hb10 hr10 hb810 g10 g7 hA
          go_wp2_with fail
          exact ⟨⟨_, _, _, x / 2, cdiv y 2, 2 * s + 1, j + 1, hjP, rfl, rfl, rfl, by go_num, hfin⟩, by simp [RowKit.intOf]; omega⟩
        · have hd1 : decide (x < T) = true := decide_eq_true (by omega)
          rw [hd1]
          clear hd1
          go_wp2_with fail
          refine (above_any v5 q4 T y x5 (HV.out.2.2.below g5) hy5).mono ?_; rintro e x6 ⟨rfl, hb6⟩
          have hx6 := hx5.below hb6
          have hy6 := hy5.below hb6
          have g6 := g5.trans (hb6.mono g5.size)
          have hs6 := HV.out.2.1.below g6
          clear hx5 hy5 hb6 g5
          by_cases hC : T ≤ y
          · have hd1 : decide (y < T) = false := decide_eq_false (by omega)
            rw [hd1]
            clear hd1
            go_wp2_with fail
            refine (moved_any u12 s ((P : Int) - j) false x6 hs6 (by omega) (by omega)).mono ?_; rintro e x7 ⟨⟨q7, rfl, hq7⟩, hb7⟩
            have hr7 := hq7.fit HSF.out.1
            have hs7 := hs6.below hb7
            clear hq7
            go_wp2_with fail
            refine (number_any 1 x7 (by decide)).mono ?_; rintro e x8 ⟨⟨q8, rfl, hq8⟩, hb8⟩
            have hb78 := hb7.trans (hb8.mono hb7.size)
            have hs8 := hs7.below hb8
            have hr8 := hr7.below hb8
            clear hs7 hr7
            go_wp2_with fail
            refine (add_any u12 q8 s 1 x8 hs8 hq8).mono ?_; rintro e x9 ⟨⟨q9, rfl, hq9⟩, hb9⟩
            have hr9 := hq9.fit HSF.out.2.1
            have hb79 := hb78.trans (hb9.mono hb78.size)
            have hr89 := hr8.below hb9
            clear hr8 hq9 hs8
            go_wp2_with fail
            refine (moved_any q9 (s + 1) ((P : Int) - j) false x9 hr9 (by omega) (by omega)).mono ?_; rintro e x10 ⟨⟨q10, rfl, hq10⟩, hb10⟩
            have hr10 := hq10.fit HSF.out.2.2
            have hb710 := hb79.trans (hb10.mono hb79.size)
            have g10 := g6.trans (hb710.mono g6.size)
            have hr810 := hr89.below hb10
            have HF : Sl ((s * 2 ^ (r + 1), (s + 1) * 2 ^ (r + 1)) = lgc false n k P) := ⟨by
              obtain ⟨e1, e2, e3, e4, e5⟩ := HXY.out
              rw [← HLG.out.1, lgL_stop (by rw [e1, e3]; exact hA) (by rw [e2, e3]; exact hC)]⟩
            clear hA hC
            go_wp2_with fail
            go_ret2
            exact ⟨⟨_, _, rfl, by rw [← HF.out]; exact hr810, by rw [← HF.out]; exact hr10⟩, HV.out.1.trans (g10.mono HV.out.1.size)⟩
          · have hd1 : decide (y < T) = true := decide_eq_true (by omega)
            rw [hd1]
            clear hd1
            go_wp2_with fail
            refine (moved_any u12 s 1 false x6 hs6 (by decide) (by decide)).mono ?_; rintro e x8 ⟨⟨q8, rfl, hq8⟩, hb8⟩
            have hr8 := hq8.fit (HM3.out 0 (by decide)).1
            go_wp2_with fail
            refine (number_any 0 x8 (by decide)).mono ?_; rintro e x9 ⟨⟨q9, rfl, hq9⟩, hb9⟩
            have hr89 := hr8.below hb9
            go_wp2_with fail
            refine (add_any q8 q9 (s * 2 ^ 1) 0 x9 hr89 hq9).mono ?_; rintro e x10 ⟨⟨q10, rfl, hq10⟩, hb10⟩
            have hr10 := hq10.fit (HM3.out 0 (by decide)).2
            have hb810 := (hb8.trans (hb9.mono hb8.size)).trans (hb10.mono (Nat.le_trans hb8.size hb9.size))
            have g10 := g6.trans (hb810.mono g6.size)
            have hfin : Sl (Below w'.heap.size w' x10 ∧ Num x10 q2 x ∧ Num x10 q4 y ∧ Num x10 q10 (2 * s + 0) ∧ Num x10 v5 (2 * 2 ^ (2 * P + 64)) ∧ x < 2 * 2 ^ (2 * P + 64) ∧ y < 2 * 2 ^ (2 * P + 64) ∧ 2 * s + 0 < 2 ^ (j + 1 + 6) ∧ lgL (2 ^ (2 * P + 64)) (P - (j + 1)) x y (2 * s + 0) = lgc false n k P) := ⟨by
              obtain ⟨e1, e2, e3, e4, e5⟩ := HXY.out
              rw [e3, HRR.out.2.1]
              refine ⟨HV.out.1.trans (g10.mono HV.out.1.size), hx6.below hb810, hy6.below hb810, hr10, HV.out.2.2.below g10, by omega, by omega, Nat.lt_of_le_of_lt (Nat.le_succ _) HSL.out, ?_⟩
              rw [← HLG.out.1, lgL_zero (by rw [e1, e3]; exact hA) (by rw [e2, e3]; exact hC), e1, e2]; rfl⟩
            clear hx6 hy6 hs6 hq8 hb8 hr8 hq9 hb9 hr89 hq10 hb10 hr10 hb810 g10 g6 hA hC
            go_wp2_with fail
            exact ⟨⟨_, _, _, x, y, 2 * s + 0, j + 1, hjP, rfl, rfl, rfl, by go_num, hfin⟩, by simp [RowKit.intOf]; omega⟩
      · obtain rfl : j = P := by omega
        rw [Nat.sub_self] at hlg
        have HLG : Sl (s = (lgc false n k j).1 ∧ s + 1 = (lgc false n k j).2) := ⟨by rw [← hlg]; exact ⟨rfl, rfl⟩⟩
        have hs1 : Sl (sat (s + 1) = s + 1) := ⟨sat_eq (m := j + 6 + 1) (by omega) (by rw [pow_succ2]; have := Nat.pow_pos (n := j + 6) (show 0 < 2 by decide); omega)⟩
        clear hlg hal hbl hsl hva hvb hvt HR hjP
        go_wp2_with fail
        refine (number_any 1 wr (by decide)).mono ?_; rintro e x1 ⟨⟨q1, rfl, hq1⟩, hb1⟩
        go_wp2_with fail
        refine (add_any u12 q1 s 1 x1 (hvs.below hb1) hq1).mono ?_; rintro e x2 ⟨⟨q2, rfl, hq2⟩, hb2⟩
        have hr2 := hq2.fit hs1.out
        have g2 := hb1.trans (hb2.mono hb1.size)
        go_wp2_with fail
        go_ret2
        exact ⟨⟨_, _, rfl, (hvs.below g2).fit HLG.out.1, hr2.fit HLG.out.2⟩, hB.trans (g2.mono hB.size)⟩
  · have hW : Sl (movN k (P : Int) false = (lgc true n k P).1 ∧ movN k (P : Int) false = (lgc true n k P).2) := ⟨by
      have hkl : k < 2 ^ 6 := by omega
      have h1 : k * 2 ^ P < 2 ^ (6 + P) := by rw [Nat.pow_add]; exact Nat.mul_lt_mul_of_pos_right hkl (Nat.pow_pos (by decide))
      rw [mov_up (m := 6 + P) (by omega) h1]
      exact ⟨rfl, rfl⟩⟩
    go_enter Tryz.func77, Tryz.ntmps77
    go_wp2_with fail
    refine HBL.out.mono ?_; rintro e w' ⟨rfl, rfl⟩
    clear HBL
    go_wp2_with fail
    refine (number_any k _ (by omega)).mono ?_; rintro e w1 ⟨⟨v0, rfl, hv0⟩, hb1⟩
    go_wp2_with fail
    refine (moved_any v0 k (P : Int) false w1 hv0 (by omega) (by omega)).mono ?_; rintro e w2 ⟨⟨v1, rfl, hv1⟩, hb2⟩
    go_wp2_with fail
    go_ret2
    exact ⟨⟨_, _, rfl, hv1.fit hW.out.1, hv1.fit hW.out.2⟩, hb1.trans (hb2.mono hb1.size)⟩
end Go.Proofs.YtalodfjplegibaaGreatDoor
