/- The reference of chapter 01: common, Valid. -/
import Derived.Test.YtabkpbbjodfolaaGreatDoorZvC
namespace Go.Proofs.YtabkpbbjodfolaaGreatDoor
set_option linter.unusedSimpArgs false
open Go.RowKit
set_option linter.unusedVariables false
set_option maxHeartbeats 800000 in
set_option maxRecDepth 100000 in
theorem r1common_any (a b : Nat) (w : World) (ha : a < 100000) (hb : b < 100000) (hb1 : 1 ≤ b) : Calls Tryz.prog 160 #[.int .i64 a, .int .i64 b] w fun e w' => e = .returned (.bool (!decide (Nat.gcd a b = 1))) ∧ w' = w := by
  obtain ⟨r, hr⟩ : ∃ r, (!decide (Nat.gcd a b = 1)) = r := ⟨_, rfl⟩; rw [hr]; have HR : Sl _ := ⟨hr⟩; clear hr; go_enter Tryz.func160, Tryz.ntmps160; go_wp2_with fail
  go_loop [5] (fun s5 => ∃ k : Nat, 2 ≤ k ∧ k ≤ b + 2 ∧ s5 = .int .i64 k ∧ Sl (∀ j, 2 ≤ j → j < k → ¬ (j ∣ a ∧ j ∣ b))) (fun s5 => b + 2 - (RowKit.intOf s5).toNat)
  case atStart => exact ⟨2, by decide, by omega, rfl, ⟨fun j h1 h2 => by omega⟩⟩
  case round =>
    obtain ⟨k, hk2, hkb, rfl, HK⟩ := hrel; have hk0 : ¬ (k : Int) = 0 := (by omega); have ma : (a : Int).tmod (k : Int) = ((a % k : Nat) : Int) := (by rw [Int.tmod_eq_emod_of_nonneg (by omega)]; rfl); have mb : (b : Int).tmod (k : Int) = ((b % k : Nat) : Int) := (by rw [Int.tmod_eq_emod_of_nonneg (by omega)]; rfl)
    by_cases hle : k ≤ b
    · have hl : (k : Int) ≤ (b : Int) := (by omega); have HD : Sl ((a % k = 0 ↔ k ∣ a) ∧ (b % k = 0 ↔ k ∣ b)) := ⟨⟨Nat.dvd_of_mod_eq_zero, Nat.mod_eq_zero_of_dvd⟩, ⟨Nat.dvd_of_mod_eq_zero, Nat.mod_eq_zero_of_dvd⟩⟩; obtain ⟨x, hx⟩ : ∃ x, a % k = x := ⟨_, rfl⟩; obtain ⟨y, hy⟩ : ∃ y, b % k = y := ⟨_, rfl⟩; rw [hx] at ma HD; rw [hy] at mb HD; clear hx hy
      have hnext : ¬ (x = 0 ∧ y = 0) → Sl (∀ j, 2 ≤ j → j < k + 1 → ¬ (j ∣ a ∧ j ∣ b)) := fun h => ⟨fun j h1 h2 hc => by
        rcases Nat.lt_or_ge j k with h3 | h3
        · exact HK.out j h1 h3 hc
        · rw [show j = k by omega] at hc
          exact h ⟨HD.out.1.2 hc.1, HD.out.2.2 hc.2⟩⟩
      by_cases hx0 : x = 0
      · by_cases hy0 : y = 0
        · have HV : Sl (r = true) := ⟨by
            rw [← HR.out]; have h1 : k ∣ Nat.gcd a b := Nat.dvd_gcd (HD.out.1.1 hx0) (HD.out.2.1 hy0)
            have h2 : Nat.gcd a b ≠ 1 := fun h => by
              rw [h] at h1; have := Nat.le_of_dvd (by decide) h1; omega
            rw [decide_eq_false h2]; rfl⟩
          have q1 : ((x : Int) == 0) = true := (by rw [hx0]; rfl); have q2 : ((y : Int) == 0) = true := (by rw [hy0]; rfl); clear hnext hx0 hy0; go_wp2_with fail; go_ret; exact ⟨by rw [HV.out]; rfl, rfl⟩
        · have HN := hnext (fun h => hy0 h.2); have q1 : ((x : Int) == 0) = true := (by rw [hx0]; rfl); have q2 : ((y : Int) == 0) = false := (by rw [beq_eq_false_iff_ne]; omega); clear hnext hx0 hy0; go_wp2_with fail; exact ⟨⟨k + 1, by omega, by omega, by go_num, HN⟩, by simp [RowKit.intOf]; omega⟩
      · have HN := hnext (fun h => hx0 h.1); have q1 : ((x : Int) == 0) = false := (by rw [beq_eq_false_iff_ne]; omega); clear hnext hx0; go_wp2_with fail; exact ⟨⟨k + 1, by omega, by omega, by go_num, HN⟩, by simp [RowKit.intOf]; omega⟩
    · have hl : decide ((k : Int) ≤ (b : Int)) = false := decide_eq_false (by omega)
      have HV : Sl (r = false) := ⟨by
        rw [← HR.out]
        have h2 : Nat.gcd a b = 1 := by
          have hp : 0 < Nat.gcd a b := Nat.gcd_pos_of_pos_right _ hb1; have hle2 : Nat.gcd a b ≤ b := Nat.gcd_le_right _ hb1; rcases Nat.lt_or_ge (Nat.gcd a b) 2 with h | h
          · omega
          · exact absurd ⟨Nat.gcd_dvd_left a b, Nat.gcd_dvd_right a b⟩ (HK.out _ h (by omega))
        rw [decide_eq_true h2]; rfl⟩
      clear ma mb; go_wp2_with fail; go_ret; exact ⟨by rw [HV.out]; rfl, rfl⟩
set_option maxHeartbeats 1600000 in
set_option maxRecDepth 100000 in
theorem rvalid_any (num den : Int) (w : World) : Calls Tryz.prog 118 #[.agg #[.int .i64 num, .int .i64 den]] w fun e w' => e = .returned (.bool (decide (vF num den))) ∧ Below w.heap.size w w' := by
  have hu : Below w.heap.size w (w.alloc (.cells #[.int .i64 num, .int .i64 den] 87)) := (Below.refl _ _).alloc (Nat.le_refl _) _; have HU : Sl _ := ⟨hu⟩; clear hu; obtain ⟨r, hr⟩ : ∃ r, decide (vF num den) = r := ⟨_, rfl⟩; rw [hr]; have HR : Sl _ := ⟨hr⟩; clear hr
  by_cases hok : (1 ≤ den ∧ den ≤ 15) ∧ (1 ≤ num ∧ num ≤ 64 * den)
  · obtain ⟨⟨h1, h2⟩, h3, h4⟩ := hok; obtain ⟨n, rfl⟩ := Int.eq_ofNat_of_zero_le (show 0 ≤ num by omega); obtain ⟨d, rfl⟩ := Int.eq_ofNat_of_zero_le (show 0 ≤ den by omega); have HG : Sl _ := ⟨fun W : World => r1common_any n d W (by omega) (by omega) (by omega)⟩
    have HV : Sl (r = decide (Nat.gcd n d = 1)) := ⟨by
      rw [← HR.out, Bool.eq_iff_iff, decide_eq_true_iff, decide_eq_true_iff]; unfold vF; simp only [Int.natAbs_natCast]
      omega⟩
    have hw : IntKind.i64.wrap (64 * (d : Int)) = 64 * (d : Int) := (by rw [IntKind.wrap_i64]; omega); have g1 : ¬ (d : Int) < 1 := (by omega); have g2 : ¬ 15 < (d : Int) := (by omega); have g3 : ¬ (n : Int) < 1 := (by omega); have g4 : ¬ 64 * (d : Int) < (n : Int) := (by omega); obtain ⟨g, hg⟩ : ∃ g, decide (Nat.gcd n d = 1) = g := ⟨_, rfl⟩; rw [hg] at HG HV; clear hg; go_enter Tryz.func118, Tryz.ntmps118; go_wp2_with fail; refine (HG.out _).mono ?_; rintro e w1 ⟨rfl, rfl⟩
    cases g <;> (go_wp2_with fail; go_ret; exact ⟨by rw [HV.out]; rfl, HU.out⟩)
  · have HV : Sl (r = false) := ⟨by
      rw [← HR.out, decide_eq_false_iff_not]; unfold vF; intro h
      exact hok ⟨h.1, h.2.1⟩⟩
    have hcase : den < 1 ∨ (¬ den < 1 ∧ 15 < den) ∨ (¬ den < 1 ∧ ¬ 15 < den ∧ num < 1) ∨ (¬ den < 1 ∧ ¬ 15 < den ∧ ¬ num < 1 ∧ 64 * den < num) := (by omega); clear hok HR; rcases hcase with h1 | ⟨h1, h2⟩ | ⟨h1, h2, h3⟩ | ⟨h1, h2, h3, h4⟩
    · have d1 : decide (1 ≤ den) = false := decide_eq_false (by omega); go_enter Tryz.func118, Tryz.ntmps118; go_wp2_with fail; go_ret; exact ⟨by rw [HV.out]; rfl, HU.out⟩
    · have d1 : decide (1 ≤ den) = true := decide_eq_true (by omega); have d2 : decide (den ≤ 15) = false := decide_eq_false (by omega); go_enter Tryz.func118, Tryz.ntmps118; go_wp2_with fail; go_ret; exact ⟨by rw [HV.out]; rfl, HU.out⟩
    · have d1 : decide (1 ≤ den) = true := decide_eq_true (by omega); have d2 : decide (den ≤ 15) = true := decide_eq_true (by omega); have d3 : decide (1 ≤ num) = false := decide_eq_false (by omega); go_enter Tryz.func118, Tryz.ntmps118; go_wp2_with fail; go_ret; exact ⟨by rw [HV.out]; rfl, HU.out⟩
    · have d1 : decide (1 ≤ den) = true := decide_eq_true (by omega); have d2 : decide (den ≤ 15) = true := decide_eq_true (by omega); have d3 : decide (1 ≤ num) = true := decide_eq_true (by omega); have hw : IntKind.i64.wrap (64 * den) = 64 * den := (by rw [IntKind.wrap_i64]; omega); have d4 : decide (num ≤ 64 * den) = false := decide_eq_false (by omega); go_enter Tryz.func118, Tryz.ntmps118; go_wp2_with fail; go_ret; exact ⟨by rw [HV.out]; rfl, HU.out⟩
end Go.Proofs.YtabkpbbjodfolaaGreatDoor
