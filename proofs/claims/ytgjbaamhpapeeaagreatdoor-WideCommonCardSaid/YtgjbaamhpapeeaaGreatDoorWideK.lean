/- Package wide, eleventh part: pow. -/
import Derived.Test.YtgjbaamhpapeeaaGreatDoorWideJ
namespace Go.Proofs.YtgjbaamhpapeeaaGreatDoor
set_option linter.unusedSimpArgs false
open Go.RowKit
set_option linter.unusedVariables false

theorem len_of_bits {x P M : Nat} (h : 2 ^ P ≤ x) (hM : 32 * M ≤ P) : M < (limbs x).length := by
  rcases Nat.lt_or_ge M (limbs x).length with h1 | h1
  · exact h1
  · have h2 := limbs_len_iff.1 h1
    rw [LB_pow] at h2
    have h3 : 2 ^ (32 * M) ≤ 2 ^ P := Nat.pow_le_pow_right (by decide) hM
    omega
theorem len_le_bits {x e P i M : Nat} (hx : x ≤ 2 ^ e) (h : e * i ≤ P) (hM : P < 32 * M) : (limbs (x ^ i)).length ≤ M := by
  refine limbs_len_le (Nat.lt_of_le_of_lt (Nat.pow_le_pow_left hx i) ?_)
  rw [← Nat.pow_mul, LB_pow]
  exact Nat.pow_lt_pow_right (by decide) (by omega)
theorem limbs_len_mul (a b : Nat) : (limbs (a * b)).length ≤ (limbs a).length + (limbs b).length := by
  refine limbs_len_le ?_
  rw [Nat.pow_add]
  exact Nat.mul_lt_mul'' (lt_limbs_len a) (lt_limbs_len b)
theorem limbs_len_le_pow {a n : Nat} (h : (limbs a).length ≤ n) : a < LB ^ n := Nat.lt_of_lt_of_le (lt_limbs_len a) (Nat.pow_le_pow_right LB_pos h)
theorem limbs_len_pow (a k : Nat) : (limbs (a ^ k)).length ≤ (limbs a).length * k + 1 := by
  induction k with
  | zero => rw [Nat.pow_zero]; have : (limbs 1).length ≤ 1 := limbs_len_le (by decide); omega
  | succ k ih =>
    rw [Nat.pow_succ, Nat.mul_succ]
    have := limbs_len_mul (a ^ k) a
    omega
/-- a power, or that it is too long -/
def PowRes (p : Nat) (e : Ending) (w : World) : Prop := ∃ v, e = .returned (.tuple #[v, .bool (decide ((limbs p).length ≤ 512))]) ∧ ((limbs p).length ≤ 512 → NV w v p)

theorem and_one (x : Nat) (hx : x < 9223372036854775808) : bits .and .i64 (x : Int) 1 = ((x % 2 : Nat) : Int) := by
  show IntKind.i64.wrap ((BitVec.ofInt 64 (x : Int) &&& BitVec.ofInt 64 1).toNat : Int) = _
  rw [BitVec.toNat_and, BitVec.ofInt_natCast, BitVec.toNat_ofNat, Nat.mod_eq_of_lt (by omega)]
  have e1 : (BitVec.ofInt 64 1).toNat = 1 := by decide
  rw [e1, Nat.and_one_is_mod]
  exact IntWalk.i64_in _ (by omega)
theorem bit_true {k j : Nat} (hk : k ≤ 20000) (h : k / 2 ^ j % 2 = 1) : (bits .and .i64 ((k : Int) / 2 ^ j) 1 == 1) = true := by
  rw [← pow_cast, ← Int.natCast_ediv, and_one _ (by have := Nat.div_le_self k (2 ^ j); omega), h]; rfl
theorem bit_false {k j : Nat} (hk : k ≤ 20000) (h : ¬ k / 2 ^ j % 2 = 1) : (bits .and .i64 ((k : Int) / 2 ^ j) 1 == 1) = false := by
  rw [← pow_cast, ← Int.natCast_ediv, and_one _ (by have := Nat.div_le_self k (2 ^ j); omega), show k / 2 ^ j % 2 = 0 by omega]; rfl
theorem pow_step (a k j : Nat) : a ^ (k / 2 ^ j) = a ^ (k / 2 ^ (j+1)) * a ^ (k / 2 ^ (j+1)) * a ^ (k / 2 ^ j % 2) := by
  rw [← Nat.pow_add, ← Nat.pow_add]
  congr 1
  rw [Nat.pow_succ, ← Nat.div_div_eq_div_mul]; omega
theorem bitsN_pos {a n : Nat} (hl : (limbs a).length = n) (hn : 0 < n) : 0 < bitsN a := by
  have h := bitsN_lt a
  rcases Nat.eq_zero_or_pos (bitsN a) with h0 | h0
  · rw [h0] at h
    have : a = 0 := by omega
    subst this
    rw [limbs_zero] at hl; simp at hl; omega
  · exact h0
theorem bitsN_limbs {a n : Nat} (hl : (limbs a).length ≤ n) : bitsN a ≤ 32 * n := by
  refine bitsN_le_iff.2 ?_
  rw [← LB_pow]
  exact Nat.lt_of_lt_of_le (lt_limbs_len a) (Nat.pow_le_pow_right LB_pos hl)

set_option maxHeartbeats 800000 in
set_option maxRecDepth 100000 in
theorem pow_loop (A : Option Addr) (n c a k b1 P : Nat) (w : World) (ha : Arg w A n c (limbs a)) (hn : n ≤ 512) (hk : k ≤ 20000) (hb1 : n = 0 ∨ bitsN a = b1 + 1) (hb2 : b1 ≤ 16384) (hP : b1 * k = P) (hsm : P < 16384) :
    Calls Tryz.prog 62 #[.slice A n c, .int .i64 k] w fun e w' => PowRes (a ^ k) e w' ∧ Below w.heap.size w w' := by
  have HA : Sl _ := ⟨ha⟩
  have h1 : Sl _ := ⟨hb1⟩
  have hmul : (b1 : Int) * (k : Int) = (P : Int) := by rw [← hP]; simp
  clear ha hb1 hP
  go_enter Tryz.func62, Tryz.ntmps62
  go_upto_region 1 with (fail)
  go_cut [18] from 8 to 18 (fun s18 wx => s18 = .bool false ∧ wx = w)
  case first =>
    obtain ⟨B, hB⟩ : ∃ B, bitsN a = B := ⟨_, rfl⟩
    have HBi : Sl (n = 0 ∨ (B : Int) - 1 = b1) := ⟨by have := h1.out; omega⟩
    go_wp2_with fail
    all_goals (try (refine (bits_any A n c a _ HA.out.1 (by omega)).mono ?_; rintro e w' ⟨rfl, rfl⟩; rw [hB]; have hBi : (B : Int) - 1 = b1 := by (have := HBi.out; omega)))
    all_goals go_wp2_with fail
    all_goals go_meet
    all_goals (first | exact ⟨rfl, rfl⟩ | exact ⟨by rw [show decide ((16384 : Int) ≤ (P : Int)) = false by rw [decide_eq_false_iff_not]; omega], rfl⟩)
  case rest =>
    obtain ⟨rfl, rfl⟩ := hcut
    clear hmul hsm hb2 h1
    go_wp2_with fail
    refine (of_any 1 _ (by decide)).mono ?_; rintro e w1 ⟨⟨A1, c1, rfl, k1, k2, k3⟩, hb1⟩
    have H1 : Sl (NV w1 (.slice A1 (limbs 1).length c1) 1) := ⟨⟨A1, c1, rfl, k3, k1, k2⟩⟩
    clear k1 k2 k3
    generalize Value.slice A1 (limbs 1).length c1 = v1 at *
    go_wp2_with fail
    refine (Tryz.bits_Len _ _ (by omega) (by omega)).mono ?_; rintro e w2 ⟨rfl, rfl⟩
    rw [Int.toNat_natCast]
    obtain ⟨L, hL⟩ : ∃ L, Lib.bitLen k = L := ⟨_, rfl⟩
    have hL2 : k < 2 ^ L ∧ L ≤ 15 := by
      rw [← hL, bitLen_eq _ (by omega)]
      exact ⟨bitsN_lt k, bitsN_le_iff.2 (by omega)⟩
    rw [hL]
    have HL : Sl _ := ⟨hL2.1⟩
    have hL3 := hL2.2
    clear hL hL2
    go_wp2_with fail
    go_loopw [6, 7] (fun s6 s7 wr => ∃ (j : Nat), j ≤ L ∧ s7 = .int .i64 ((j : Int) - 1) ∧ NV wr s6 (a ^ (k / 2 ^ j)) ∧ Below wc.heap.size wc wr) (fun _ s7 _ => (intOf s7 + 1).toNat)
    case atStart => exact ⟨L, Nat.le_refl _, rfl, by rw [Nat.div_eq_of_lt HL.out, Nat.pow_zero]; exact H1.out, hb1⟩
    case round =>
      obtain ⟨j, hj, rfl, ⟨A2, c2, rfl, h2⟩, hB⟩ := hrel
      have H2 : Sl _ := ⟨h2⟩
      clear h2
      rcases j with _ | j
      · simp only [Nat.pow_zero, Nat.div_one] at H2 ⊢
        go_wp2_with fail
        go_ret2
        have hd : decide (((limbs (a ^ k)).length : Int) ≤ 512) = decide ((limbs (a ^ k)).length ≤ 512) := by
          rw [Bool.eq_iff_iff, decide_eq_true_iff, decide_eq_true_iff]; omega
        rw [hd]
        exact ⟨⟨_, rfl, fun _ => ⟨A2, c2, rfl, H2.out⟩⟩, hB⟩
      · have ej : (((j + 1 : Nat) : Int) - 1) = (j : Int) := by omega
        rw [ej]
        have hlen : (limbs (a ^ (k / 2 ^ (j + 1)))).length ≤ 4294967296 := by
          have h1 := limbs_len_pow a (k / 2 ^ (j + 1))
          have h2 : k / 2 ^ (j + 1) ≤ 20000 := Nat.le_trans (Nat.div_le_self _ _) hk
          have h3 := HA.out.1.len
          have h4 : (limbs a).length * (k / 2 ^ (j + 1)) ≤ 512 * 20000 := Nat.mul_le_mul (by omega) h2
          omega
        have HLen : Sl _ := ⟨hlen⟩
        clear hlen ej
        have hst := pow_step a k j
        by_cases hbit : k / 2 ^ j % 2 = 1
        · have hbt := bit_true hk hbit
          rw [hbit, Nat.pow_one] at hst
          have HS : Sl _ := ⟨hst⟩
          clear hst hbit
          go_wp2_with fail
          refine (times_any A2 A2 _ _ c2 c2 _ _ _ H2.out.1 H2.out.1 HLen.out HLen.out).mono ?_; rintro e w3 ⟨⟨A3, c3, rfl, t1, t2, t3⟩, hb3⟩
          have hl3 : (limbs (a ^ (k / 2 ^ (j + 1)) * a ^ (k / 2 ^ (j + 1)))).length ≤ 4294967296 := by
            have h1 := limbs_len_pow a (k / 2 ^ (j + 1) + k / 2 ^ (j + 1))
            rw [Nat.pow_add] at h1
            have h2 : k / 2 ^ (j + 1) ≤ 20000 := Nat.le_trans (Nat.div_le_self _ _) hk
            have h3 := HA.out.1.len
            have h4 : (limbs a).length * (k / 2 ^ (j + 1) + k / 2 ^ (j + 1)) ≤ 512 * 40000 := Nat.mul_le_mul (by omega) (by omega)
            omega
          have HL3 : Sl _ := ⟨hl3⟩
          have H3 : Sl _ := ⟨t3⟩
          clear hl3 t1 t2 t3
          go_wp2_with fail
          refine (times_any A3 A _ _ c3 c _ _ _ H3.out ((HA.out.below (hB.trans (hb3.mono hB.size))).1) HL3.out (by omega)).mono ?_; rintro e w4 ⟨⟨A4, c4, rfl, t1, t2, t3⟩, hb4⟩
          have H4 : Sl (NV w4 _ _) := ⟨⟨A4, c4, rfl, t3, t1, t2⟩⟩
          clear t1 t2 t3
          go_wp2_with fail
          refine ⟨⟨j, by omega, rfl, by rw [HS.out]; exact H4.out, (hB.trans (hb3.mono hB.size)).trans (hb4.mono (Nat.le_trans hB.size hb3.size))⟩, by simp [intOf]; try omega⟩
        · have hbt := bit_false hk hbit
          rw [show k / 2 ^ j % 2 = 0 by omega, Nat.pow_zero, Nat.mul_one] at hst
          have HS : Sl _ := ⟨hst⟩
          clear hst hbit
          go_wp2_with fail
          refine (times_any A2 A2 _ _ c2 c2 _ _ _ H2.out.1 H2.out.1 HLen.out HLen.out).mono ?_; rintro e w3 ⟨⟨A3, c3, rfl, t1, t2, t3⟩, hb3⟩
          have H3 : Sl (NV w3 _ _) := ⟨⟨A3, c3, rfl, t3, t1, t2⟩⟩
          clear t1 t2 t3
          go_wp2_with fail
          refine ⟨⟨j, by omega, rfl, by rw [HS.out]; exact H3.out, hB.trans (hb3.mono hB.size)⟩, by simp [intOf]; try omega⟩

set_option maxHeartbeats 800000 in
set_option maxRecDepth 100000 in
theorem pow_long (A : Option Addr) (n c a k b1 P : Nat) (w : World) (ha : Arg w A n c (limbs a)) (hn : n ≤ 512) (hn0 : 0 < n) (hk : k ≤ 20000) (hb1 : bitsN a = b1 + 1) (hb2 : b1 ≤ 16384) (hP : b1 * k = P) (hsm : 16384 ≤ P) :
    Calls Tryz.prog 62 #[.slice A n c, .int .i64 k] w fun e w' => PowRes (a ^ k) e w' ∧ Below w.heap.size w w' := by
  have hpl : P ≤ 16384 * 20000 := by rw [← hP]; exact Nat.mul_le_mul hb2 hk
  have hlong : ¬ (limbs (a ^ k)).length ≤ 512 := by
    intro h
    have h2 : 2 ^ b1 ≤ a := by
      have := bitsN_le (n := a) (by rintro rfl; have h5 := ha.1.len; rw [limbs_zero] at h5; simp at h5; omega)
      rwa [hb1, Nat.add_sub_cancel] at this
    have h3 : (2 ^ b1) ^ k ≤ a ^ k := Nat.pow_le_pow_left h2 k
    rw [← Nat.pow_mul, hP] at h3
    have h4 := len_of_bits (M := 512) h3 (by omega)
    omega
  have HA : Sl _ := ⟨ha⟩
  have HBI : Sl _ := ⟨hb1⟩
  have HL : Sl _ := ⟨hlong⟩
  have hmul : (b1 : Int) * (k : Int) = (P : Int) := by rw [← hP]; simp
  have hBi : ((b1 + 1 : Nat) : Int) - 1 = b1 := by omega
  have hsm2 : (16384 : Int) ≤ (P : Int) := by omega
  clear ha hb1 hP hlong hsm
  go_enter Tryz.func62, Tryz.ntmps62
  go_wp2_with fail
  refine (bits_any A n c a _ HA.out.1 (by omega)).mono ?_; rintro e w' ⟨rfl, rfl⟩
  rw [HBI.out]
  go_wp2_with fail
  go_ret2
  exact ⟨⟨.slice none 0 0, by rw [decide_eq_false HL.out]; rfl, fun h => absurd h HL.out⟩, Below.refl _ _⟩

theorem pow_any (A : Option Addr) (n c a k : Nat) (w : World) (ha : Arg w A n c (limbs a)) (hn : n ≤ 512) (hk : k ≤ 20000) :
    Calls Tryz.prog 62 #[.slice A n c, .int .i64 k] w fun e w' => PowRes (a ^ k) e w' ∧ Below w.heap.size w w' := by
  rcases Nat.eq_zero_or_pos n with h | h
  · exact pow_loop A n c a k 0 0 w ha hn hk (.inl h) (by decide) (by simp) (by decide)
  · have h1 := bitsN_pos ha.1.len h
    have h2 := bitsN_limbs (a := a) (n := 512) (by rw [ha.1.len]; exact hn)
    obtain ⟨b1, hb1⟩ : ∃ b1, bitsN a = b1 + 1 := ⟨bitsN a - 1, by omega⟩
    rcases Nat.lt_or_ge (b1 * k) 16384 with h3 | h3
    · exact pow_loop A n c a k b1 _ w ha hn hk (.inr hb1) (by omega) rfl h3
    · exact pow_long A n c a k b1 _ w ha hn h hk hb1 (by omega) rfl h3
end Go.Proofs.YtgjbaamhpapeeaaGreatDoor
