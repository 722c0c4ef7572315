/- Package ratios: quick bounds of a logarithm. -/
import Derived.Test.YtalodfjplegibaaGreatDoorBase
import Derived.Test.YtalodfjplegibaaGreatDoorMixA
import Derived.Test.YtalodfjplegibaaGreatDoorShelf
namespace Go.Proofs.YtalodfjplegibaaGreatDoor
set_option linter.unusedSimpArgs false
open Go.RowKit
set_option linter.unusedVariables false

theorem sq_lt {a : Nat} (h : a < W64) : a * a / 18446744073709551616 < W64 := by
  rw [Nat.div_lt_iff_lt_mul (by decide)]
  exact Nat.mul_lt_mul'' h h
theorem ret_pair {k1 k2 : IntKind} {a b c d : Int} (h1 : a = c) (h2 : b = d) : Ending.returned (.tuple #[.int k1 a, .int k2 b]) = .returned (.tuple #[.int k1 c, .int k2 d]) := by rw [h1, h2]
theorem shl_fit {s j : Nat} (h : s < 2 ^ (6 + j)) (hj : j ≤ 28) : IntKind.u64.wrap ((s : Int) * 2 ^ (28 - j)) = ((s * 2 ^ (28 - j) : Nat) : Int) := by
  have e : (s : Int) * 2 ^ (28 - j) = ((s * 2 ^ (28 - j) : Nat) : Int) := by rw [Int.natCast_mul, Int.natCast_pow]; rfl
  have h1 : s * 2 ^ (28 - j) < 2 ^ (6 + j) * 2 ^ (28 - j) := Nat.mul_lt_mul_of_pos_right h (Nat.pow_pos (by decide))
  rw [← Nat.pow_add, show 6 + j + (28 - j) = 34 by omega] at h1
  rw [e]
  generalize s * 2 ^ (28 - j) = z at *
  rw [IntKind.wrap_u64]; omega
theorem shl_fit1 {s j : Nat} (h : s < 2 ^ (6 + j)) (hj : j ≤ 28) : IntKind.u64.wrap (((s : Int) + 1) * 2 ^ (28 - j)) = (((s + 1) * 2 ^ (28 - j) : Nat) : Int) := by
  have e : ((s : Int) + 1) * 2 ^ (28 - j) = (((s + 1) * 2 ^ (28 - j) : Nat) : Int) := by rw [Int.natCast_mul, Int.natCast_pow]; rfl
  have h1 : (s + 1) * 2 ^ (28 - j) ≤ 2 ^ (6 + j) * 2 ^ (28 - j) := Nat.mul_le_mul_right _ h
  rw [← Nat.pow_add, show 6 + j + (28 - j) = 34 by omega] at h1
  rw [e]
  generalize (s + 1) * 2 ^ (28 - j) = z at *
  rw [IntKind.wrap_u64]; omega
theorem oru64 (a b : Nat) (ha : a < 18446744073709551616) (hb : b < 18446744073709551616) : bits .or .u64 (a : Int) (b : Int) = ((a ||| b : Nat) : Int) := by
  have hx : a ||| b < 2 ^ 64 := Nat.or_lt_two_pow (by omega) (by omega)
  have e : ∀ x : Nat, x < 18446744073709551616 → (BitVec.ofInt 64 (x : Int)).toNat = x := fun x h => by
    rw [BitVec.ofInt_natCast, BitVec.toNat_ofNat]; exact Nat.mod_eq_of_lt h
  show IntKind.u64.wrap ((BitVec.ofInt 64 (a : Int) ||| BitVec.ofInt 64 (b : Int)).toNat : Int) = _
  rw [BitVec.toNat_or, e a ha, e b hb, IntKind.wrap_u64]
  omega
theorem or_bit {x y : Nat} (hx : x < W63) (hy : y < W64) : bits .or .u64 ((x : Int) * 2) ((y : Int) / 9223372036854775808) = ((2 * x + y / W63 : Nat) : Int) := by
  have e0 : (x : Int) * 2 = ((x * 2 : Nat) : Int) := by omega
  have e1 : (y : Int) / 9223372036854775808 = ((y / W63 : Nat) : Int) := by unfold W63; omega
  have h1 : y / W63 < 2 ^ 1 := by unfold W63 W64 at *; omega
  have h2 : x * 2 < 18446744073709551616 := by unfold W63 at hx; omega
  rw [e0, e1, oru64 _ _ h2 (by omega), Nat.or_comm, or_add 1 _ _ h1 (Nat.dvd_mul_left _ _)]
  congr 1; omega
theorem or_zero {s : Nat} (hs : s < 17179869184) : bits .or .u64 ((s : Int) * 2) 0 = ((2 * s : Nat) : Int) := by
  have e0 : (s : Int) * 2 = ((s * 2 : Nat) : Int) := by omega
  have h := oru64 (s * 2) 0 (by omega) (by omega)
  rw [e0]
  have h0 : ((0 : Nat) : Int) = 0 := rfl
  rw [h0] at h
  rw [h, Nat.or_zero]
  congr 1; omega
theorem or_one {s : Nat} (hs : s < 17179869184) : bits .or .u64 ((s : Int) * 2) 1 = ((2 * s + 1 : Nat) : Int) := by
  have e0 : (s : Int) * 2 = ((s * 2 : Nat) : Int) := by omega
  have h := oru64 (s * 2) 1 (by omega) (by omega)
  rw [e0]
  have h0 : ((1 : Nat) : Int) = 1 := rfl
  rw [h0] at h
  rw [h, Nat.or_comm, or_add 1 1 _ (by decide) (Nat.dvd_mul_left _ _)]
  congr 1; omega
theorem shl1_wrap (v : Nat) : IntKind.u64.wrap ((v : Int) * 2) = ((2 * v % W64 : Nat) : Int) := by
  rw [IntKind.wrap_u64]; unfold W64; omega
theorem int_eq64 {k : IntKind} {a b : Int} (h : a = b) : Value.int k a = .int k b := by rw [h]

/-- as qk, the test for a power of two and the number of bits being given -/
def qkc (c : Bool) (n k : Nat) : Nat × Nat :=
  if c = true then (k * 268435456, k * 268435456) else qloop 28 (n * 2 ^ (63 - k)) (n * 2 ^ (63 - k)) k

set_option maxHeartbeats 1600000 in
set_option maxRecDepth 100000 in
theorem quick_any (n k : Nat) (c : Bool) (w : World) (h1 : 1 ≤ n) (h2 : n < 1000000000000000) (hk : Lib.bitLen n = k + 1) (hk2 : k ≤ 50) (hn : n * 2 ^ (63 - k) < W64) (hc : (bits .and .i64 (n : Int) ((n : Int) - 1) == 0) = c) :
    Calls Tryz.prog 74 #[.int .i64 n] w fun e w' => e = .returned (.tuple #[.int .u64 ((qkc c n k).1 : Nat), .int .u64 ((qkc c n k).2 : Nat)]) ∧ ∃ m, w' = w.drewN m := by
  have hbl := Tryz.bits_Len64 (n : Int) w (by omega) (by omega)
  have e0 : ((n : Int)).toNat = n := by omega
  rw [e0, hk] at hbl
  have HBL : Sl _ := ⟨hbl⟩
  have HN : Sl _ := ⟨hn⟩
  clear hbl e0 hk hn
  cases c
  · go_enter Tryz.func74, Tryz.ntmps74
    go_wp2_with fail
    refine HBL.out.mono ?_; rintro e w' ⟨rfl, rfl⟩
    go_wp2_with fail
    have HW : Sl (IntKind.u64.wrap ((n : Int) * 2 ^ (63 - k)) = ((n * 2 ^ (63 - k) : Nat) : Int)) := ⟨by
      have h := HN.out
      have e : (n : Int) * 2 ^ (63 - k) = ((n * 2 ^ (63 - k) : Nat) : Int) := by rw [Int.natCast_mul, Int.natCast_pow]; rfl
      rw [e]
      generalize n * 2 ^ (63 - k) = z at *
      unfold W64 at h
      rw [IntKind.wrap_u64]; omega⟩
    go_loop [5, 6, 7, 36] (fun s5 s6 s7 s36 => ∃ (j a b s : Nat), j ≤ 28 ∧ s5 = .int .u64 s ∧ s6 = .int .u64 a ∧ s7 = .int .u64 b ∧ s36 = .int .i64 j ∧ Sl (a < W64 ∧ b < W64 ∧ s < 2 ^ (6 + j) ∧ qloop (28 - j) a b s = qkc false n k)) (fun _ _ _ s36 => 28 - (RowKit.intOf s36).toNat)
    case atStart =>
      refine ⟨0, n * 2 ^ (63 - k), n * 2 ^ (63 - k), k, Nat.zero_le _, rfl, int_eq64 HW.out, int_eq64 HW.out, rfl, ⟨HN.out, HN.out, by omega, ?_⟩⟩
      unfold qkc; rw [if_neg (by decide)]
    case round =>
      obtain ⟨j, a, b, s, hj, rfl, rfl, rfl, rfl, HS⟩ := hrel
      by_cases hlt : j < 28
      · have HM1 : Sl _ := ⟨Tryz.bits_Mul64 a a HS.out.1 HS.out.1 w'⟩
        have HM2 : Sl _ := ⟨Tryz.bits_Mul64 b b HS.out.2.1 HS.out.2.1 w'⟩
        obtain ⟨x, hx⟩ : ∃ x, a * a / 18446744073709551616 = x := ⟨_, rfl⟩
        obtain ⟨y, hy⟩ : ∃ x, a * a % 18446744073709551616 = x := ⟨_, rfl⟩
        obtain ⟨z, hz⟩ : ∃ x, b * b / 18446744073709551616 = x := ⟨_, rfl⟩
        obtain ⟨v, hv⟩ : ∃ x, b * b % 18446744073709551616 = x := ⟨_, rfl⟩
        rw [hx, hy] at HM1
        rw [hz, hv] at HM2
        have HX : Sl _ := ⟨And.intro hx (And.intro hy (And.intro hz hv))⟩
        clear hx hy hz hv
        have hs34 : s < 17179869184 := by
          have h := HS.out.2.2.1
          have h3 : 2 ^ (6 + j) ≤ 2 ^ 34 := Nat.pow_le_pow_right (by decide) (by omega)
          omega
        have HLX : Sl (x < W64 ∧ y < W64 ∧ z < W64 ∧ v < W64) := ⟨by
          have ha := HS.out.1
          have hb := HS.out.2.1
          refine ⟨?_, ?_, ?_, ?_⟩
          · rw [← HX.out.1]; exact sq_lt ha
          · rw [← HX.out.2.1]; exact Nat.mod_lt _ (by decide)
          · rw [← HX.out.2.2.1]; exact sq_lt hb
          · rw [← HX.out.2.2.2]; exact Nat.mod_lt _ (by decide)⟩
        have HF1 : Sl (IntKind.u64.wrap ((s : Int) * 2 ^ (28 - j)) = ((s * 2 ^ (28 - j) : Nat) : Int)) := ⟨shl_fit HS.out.2.2.1 hj⟩
        have HF2 : Sl (IntKind.u64.wrap (((s : Int) + 1) * 2 ^ (28 - j)) = (((s + 1) * 2 ^ (28 - j) : Nat) : Int)) := ⟨shl_fit1 HS.out.2.2.1 hj⟩
        by_cases hxb : x < W63
        · have hx63 : (x : Int) / 9223372036854775808 = 0 := by unfold W63 at hxb; omega
          by_cases hzb : z < W63
          · have hz63 : (z : Int) / 9223372036854775808 = 0 := by unfold W63 at hzb; omega
            obtain ⟨x2, hx2⟩ : ∃ t, 2 * x + y / W63 = t := ⟨_, rfl⟩
            obtain ⟨z2, hz2⟩ : ∃ t, 2 * z + v / W63 = t := ⟨_, rfl⟩
            obtain ⟨v2, hv2⟩ : ∃ t, 2 * v % W64 = t := ⟨_, rfl⟩
            have f1 := or_bit (x := x) (y := y) hxb HLX.out.2.1
            have f2 := or_bit (x := z) (y := v) hzb HLX.out.2.2.2
            have f3 : IntKind.u64.wrap ((v : Int) * 2) = (v2 : Int) := by rw [← hv2]; exact shl1_wrap v
            have f4 := or_zero (s := s) hs34
            rw [hx2] at f1
            rw [hz2] at f2
            have HST : Sl _ := ⟨fun (t : Nat) (ht : z2 + (if 0 < v2 then 1 else 0) = t) => qstep_00 (s := s) HX.out.1 HX.out.2.1 HX.out.2.2.1 HX.out.2.2.2 hxb hzb (t := t) (by rw [hz2, hv2]; exact ht)⟩
            rw [hx2] at HST
            have HZ2 : Sl (z2 < W64) := ⟨by rw [← hz2]; have := HLX.out.2.2.2; unfold W64 W63 at *; omega⟩
            have HX2 : Sl (x2 < W64) := ⟨by rw [← hx2]; have := HLX.out.2.1; unfold W64 W63 at *; omega⟩
            clear hx2 hz2 hv2 hxb hzb
            rcases Nat.eq_zero_or_pos v2 with hv0 | hv0
            · subst hv0
              have hst := HST.out z2 (by simp)
              have HT : Sl _ := ⟨hst⟩
              clear hst HST
              rcases Nat.eq_zero_or_pos z2 with hz0 | hz0
              · subst hz0
                go_wp2_with fail
                refine HM1.out.mono ?_; rintro e w'' ⟨rfl, rfl⟩
                go_wp2_with fail
                refine HM2.out.mono ?_; rintro e w'' ⟨rfl, rfl⟩
                go_wp2_with fail
                have HNO : Sl _ := ⟨qloop_none (s := s) (HT.out.trans (if_neg (by simp))) hlt⟩
                clear HM1 HM2
                go_quiet (fail)
                go_wp2_with fail
                go_ret2
                have h9 := HS.out.2.2.2
                rw [HNO.out] at h9
                rw [← h9]
                exact ⟨ret_pair (by rw [HF1.out]) (by rw [HF2.out]), ⟨_, rfl⟩⟩
              · have hz1 : ((z2 : Int) == 0) = false := by rw [beq_eq_false_iff_ne]; omega
                go_wp2_with fail
                refine HM1.out.mono ?_; rintro e w'' ⟨rfl, rfl⟩
                go_wp2_with fail
                refine HM2.out.mono ?_; rintro e w'' ⟨rfl, rfl⟩
                go_wp2_with fail
                have HGO : Sl _ := ⟨qloop_some (j := j) (HT.out.trans (if_pos ⟨by have := HZ2.out; omega, by omega⟩)) hlt⟩
                refine ⟨⟨j + 1, x2, z2, 2 * s, hlt, rfl, rfl, rfl, by go_num, ⟨HX2.out, HZ2.out, by have := HS.out.2.2.1; rw [show 6 + (j + 1) = (6 + j) + 1 by omega, Nat.pow_succ]; omega, by rw [← HS.out.2.2.2, HGO.out]; rfl⟩⟩, by simp [RowKit.intOf]; omega⟩
            · have hst := HST.out (z2 + 1) (by rw [if_pos hv0])
              have HT : Sl _ := ⟨hst⟩
              clear hst HST
              by_cases hzw : z2 + 1 = W64
              · have f5 : IntKind.u64.wrap ((z2 : Int) + 1) = 0 := by rw [IntKind.wrap_u64]; unfold W64 at hzw; omega
                have HZW : Sl _ := ⟨hzw⟩
                clear hzw
                have HNO : Sl _ := ⟨qloop_none (s := s) (HT.out.trans (if_neg (by rw [HZW.out]; simp))) hlt⟩
                go_wp2_with fail
                refine HM1.out.mono ?_; rintro e w'' ⟨rfl, rfl⟩
                go_wp2_with fail
                refine HM2.out.mono ?_; rintro e w'' ⟨rfl, rfl⟩
                go_wp2_with fail
                all_goals (
                  go_quiet (fail)
                  go_wp2_with fail
                  go_ret2
                  have h9 := HS.out.2.2.2
                  rw [HNO.out] at h9
                  rw [← h9]
                  exact ⟨ret_pair (by rw [HF1.out]) (by rw [HF2.out]), ⟨_, rfl⟩⟩)
              · have f5 : IntKind.u64.wrap ((z2 : Int) + 1) = (z2 : Int) + 1 := by have := HZ2.out; rw [IntKind.wrap_u64]; unfold W64 at *; omega
                have hz1 : ((z2 : Int) + 1 == 0) = false := by rw [beq_eq_false_iff_ne]; omega
                have HZW : Sl _ := ⟨hzw⟩
                clear hzw
                go_wp2_with fail
                refine HM1.out.mono ?_; rintro e w'' ⟨rfl, rfl⟩
                go_wp2_with fail
                refine HM2.out.mono ?_; rintro e w'' ⟨rfl, rfl⟩
                go_wp2_with fail
                clear f1 f2 f3 f4 f5 hz1 hx63 hz63
                have HGO : Sl _ := ⟨qloop_some (j := j) (HT.out.trans (if_pos ⟨by have := HZW.out; unfold W64 at *; omega, by omega⟩)) hlt⟩
                refine ⟨⟨j + 1, x2, z2 + 1, 2 * s + 0, hlt, int_eq64 (by omega), rfl, int_eq64 (by omega), by go_num, ⟨HX2.out, (by have := HZ2.out; have := HZW.out; omega), by have := HS.out.2.2.1; rw [show 6 + (j + 1) = (6 + j) + 1 by omega, Nat.pow_succ]; omega, by rw [← HS.out.2.2.2, HGO.out]⟩⟩, by simp [RowKit.intOf]; omega⟩
          · have hzb2 : W63 ≤ z := Nat.le_of_not_lt hzb
            have hz63 : (z : Int) / 9223372036854775808 = 1 := by have := HLX.out.2.2.1; unfold W63 W64 at *; omega
            have f1 := or_bit (x := x) (y := y) hxb HLX.out.2.1
            have HQ : Sl (qstep a b s = none) := ⟨qstep_no HX.out.1 HX.out.2.2.1 (by have := HLX.out.2.2.1; unfold W63 W64 at *; omega)⟩
            clear hzb hzb2 hxb
            have HNO : Sl _ := ⟨qloop_none (s := s) HQ.out hlt⟩
            go_wp2_with fail
            refine HM1.out.mono ?_; rintro e w'' ⟨rfl, rfl⟩
            go_wp2_with fail
            refine HM2.out.mono ?_; rintro e w'' ⟨rfl, rfl⟩
            go_wp2_with fail
            all_goals (
              go_quiet (fail)
              go_wp2_with fail
              go_ret2
              have h9 := HS.out.2.2.2
              rw [HNO.out] at h9
              rw [← h9]
              exact ⟨ret_pair (by rw [HF1.out]) (by rw [HF2.out]), ⟨_, rfl⟩⟩)
        · have hxb2 : W63 ≤ x := Nat.le_of_not_lt hxb
          have hx63 : (x : Int) / 9223372036854775808 = 1 := by have := HLX.out.1; unfold W63 W64 at *; omega
          by_cases hzb : z < W63
          · have hz63 : (z : Int) / 9223372036854775808 = 0 := by unfold W63 at hzb; omega
            have HQ : Sl (qstep a b s = none) := ⟨qstep_no HX.out.1 HX.out.2.2.1 (by have := HLX.out.1; unfold W63 W64 at *; omega)⟩
            clear hzb hxb2 hxb
            have HNO : Sl _ := ⟨qloop_none (s := s) HQ.out hlt⟩
            go_wp2_with fail
            refine HM1.out.mono ?_; rintro e w'' ⟨rfl, rfl⟩
            go_wp2_with fail
            refine HM2.out.mono ?_; rintro e w'' ⟨rfl, rfl⟩
            go_wp2_with fail
            all_goals (
              go_quiet (fail)
              go_wp2_with fail
              go_ret2
              have h9 := HS.out.2.2.2
              rw [HNO.out] at h9
              rw [← h9]
              exact ⟨ret_pair (by rw [HF1.out]) (by rw [HF2.out]), ⟨_, rfl⟩⟩)
          · have hzb2 : W63 ≤ z := Nat.le_of_not_lt hzb
            have hz63 : (z : Int) / 9223372036854775808 = 1 := by have := HLX.out.2.2.1; unfold W63 W64 at *; omega
            have f4 := or_one (s := s) hs34
            have HST : Sl _ := ⟨fun (t : Nat) (ht : z + (if 0 < v then 1 else 0) = t) => qstep_11 (s := s) HX.out.1 HX.out.2.2.1 HX.out.2.2.2 hxb2 hzb2 HLX.out.1 HLX.out.2.2.1 (t := t) ht⟩
            have HZ2 : Sl (z < W64) := ⟨HLX.out.2.2.1⟩
            have hz0 : 0 < z := by unfold W63 at hzb2; omega
            clear hxb hxb2 hzb hzb2
            rcases Nat.eq_zero_or_pos v with hv0 | hv0
            · subst hv0
              have hst := HST.out z (by simp)
              have HT : Sl _ := ⟨hst⟩
              clear hst HST
              have hz1 : ((z : Int) == 0) = false := by rw [beq_eq_false_iff_ne]; omega
              go_wp2_with fail
              refine HM1.out.mono ?_; rintro e w'' ⟨rfl, rfl⟩
              go_wp2_with fail
              refine HM2.out.mono ?_; rintro e w'' ⟨rfl, rfl⟩
              go_wp2_with fail
              clear f4 hz1 hx63 hz63
              have HGO : Sl _ := ⟨qloop_some (j := j) (HT.out.trans (if_pos ⟨by have := HZ2.out; unfold W64 at *; omega, by omega⟩)) hlt⟩
              refine ⟨⟨j + 1, x, z, 2 * s + 1, hlt, int_eq64 (by omega), rfl, int_eq64 (by omega), by go_num, ⟨HLX.out.1, HZ2.out, by have := HS.out.2.2.1; rw [show 6 + (j + 1) = (6 + j) + 1 by omega, Nat.pow_succ]; omega, by rw [← HS.out.2.2.2, HGO.out]⟩⟩, by simp [RowKit.intOf]; omega⟩
            · have hst := HST.out (z + 1) (by rw [if_pos hv0])
              have HT : Sl _ := ⟨hst⟩
              clear hst HST
              by_cases hzw : z + 1 = W64
              · have f5 : IntKind.u64.wrap ((z : Int) + 1) = 0 := by rw [IntKind.wrap_u64]; unfold W64 at hzw; omega
                have HZW : Sl _ := ⟨hzw⟩
                clear hzw
                have HNO : Sl _ := ⟨qloop_none (s := s) (HT.out.trans (if_neg (by rw [HZW.out]; simp))) hlt⟩
                go_wp2_with fail
                refine HM1.out.mono ?_; rintro e w'' ⟨rfl, rfl⟩
                go_wp2_with fail
                refine HM2.out.mono ?_; rintro e w'' ⟨rfl, rfl⟩
                go_wp2_with fail
                all_goals (
                  go_quiet (fail)
                  go_wp2_with fail
                  go_ret2
                  have h9 := HS.out.2.2.2
                  rw [HNO.out] at h9
                  rw [← h9]
                  exact ⟨ret_pair (by rw [HF1.out]) (by rw [HF2.out]), ⟨_, rfl⟩⟩)
              · have f5 : IntKind.u64.wrap ((z : Int) + 1) = (z : Int) + 1 := by have := HZ2.out; rw [IntKind.wrap_u64]; unfold W64 at *; omega
                have hz1 : ((z : Int) + 1 == 0) = false := by rw [beq_eq_false_iff_ne]; omega
                have HZW : Sl _ := ⟨hzw⟩
                clear hzw
                go_wp2_with fail
                refine HM1.out.mono ?_; rintro e w'' ⟨rfl, rfl⟩
                go_wp2_with fail
                refine HM2.out.mono ?_; rintro e w'' ⟨rfl, rfl⟩
                go_wp2_with fail
                clear f4 f5 hz1 hx63 hz63
                have HGO : Sl _ := ⟨qloop_some (j := j) (HT.out.trans (if_pos ⟨by have := HZW.out; unfold W64 at *; omega, by omega⟩)) hlt⟩
                refine ⟨⟨j + 1, x, z + 1, 2 * s + 1, hlt, int_eq64 (by omega), rfl, int_eq64 (by omega), by go_num, ⟨HLX.out.1, (by have := HZ2.out; have := HZW.out; omega), by have := HS.out.2.2.1; rw [show 6 + (j + 1) = (6 + j) + 1 by omega, Nat.pow_succ]; omega, by rw [← HS.out.2.2.2, HGO.out]⟩⟩, by simp [RowKit.intOf]; omega⟩
      · obtain rfl : j = 28 := by omega
        have h9 := HS.out.2.2.2
        rw [show 28 - 28 = 0 from rfl, qloop] at h9
        have HR : Sl _ := ⟨h9⟩
        clear h9
        have hs34 : s < 17179869184 := by
          have h := HS.out.2.2.1
          have h3 : 2 ^ (6 + 28) = 17179869184 := by decide
          omega
        go_wp2_with fail
        go_ret2
        rw [← HR.out]
        exact ⟨ret_pair rfl (by omega), ⟨0, rfl⟩⟩
  · go_enter Tryz.func74, Tryz.ntmps74
    go_wp2_with fail
    refine HBL.out.mono ?_; rintro e w' ⟨rfl, rfl⟩
    go_wp2_with fail
    go_ret2
    refine ⟨ret_pair ?_ ?_, ⟨0, rfl⟩⟩ <;> (unfold qkc; simp)
end Go.Proofs.YtalodfjplegibaaGreatDoor
