/- Package words: the greatest common divisor. -/
import Derived.Test.YtabkpbbjodfolaaGreatDoorZvB
import Derived.Deep.RegionWith
namespace Go.Proofs.YtabkpbbjodfolaaGreatDoor
set_option linter.unusedSimpArgs false
open Go.RowKit
set_option linter.unusedVariables false
set_option maxHeartbeats 800000 in
theorem wgcd_any (a b : Nat) (w : World) (ha : a < 4000000000000000000) (hb : b < 4000000000000000000) :
    Calls Tryz.prog 210 #[.int .i64 a, .int .i64 b] w fun e w' => e = .returned (.int .i64 (Nat.gcd a b)) ∧ ∃ m, w' = w.drewN m := by
  go_enter Tryz.func210, Tryz.ntmps210; go_wp2_with fail
  go_loopw [0, 1] (fun s0 s1 wr => ∃ (x y : Nat), s0 = .int .i64 x ∧ s1 = .int .i64 y ∧ x < 4000000000000000000 ∧ y < 4000000000000000000 ∧ Sl (Nat.gcd x y = Nat.gcd a b ∧ ∃ m, wr = w.drewN m)) (fun _ s1 _ => (RowKit.intOf s1).toNat)
  case atStart => exact ⟨a, b, rfl, rfl, ha, hb, ⟨rfl, 0, rfl⟩⟩
  case round =>
    clear ha hb; obtain ⟨x, y, rfl, rfl, hx, hy, HG⟩ := hrel; rcases Nat.eq_zero_or_pos y with h0 | h0
    · subst h0; go_wp2_with fail; go_ret; obtain ⟨h1, m, h2⟩ := HG.out; rw [Nat.gcd_zero_right] at h1; exact ⟨by rw [← h1]; rfl, m, h2⟩
    · have hne : ((y : Int) == 0) = false := (by rw [beq_eq_false_iff_ne]; omega); have hmod : (x : Int).tmod (y : Int) = ((x % y : Nat) : Int) := (by rw [Int.tmod_eq_emod_of_nonneg (by omega)]; omega); have hlt : x % y < y := Nat.mod_lt _ h0; have HGN : Sl (Nat.gcd y (x % y) = Nat.gcd a b) := ⟨by rw [← HG.out.1, Nat.gcd_comm y, ← Nat.gcd_rec, Nat.gcd_comm]⟩; generalize x % y = r at *
      go_wp2_with fail
      go_quiet (fail)
      go_wp2_with fail; obtain ⟨m, hm⟩ := HG.out.2; refine ⟨⟨y, r, rfl, rfl, hy, by omega, ⟨HGN.out, m + nq, by rw [hm]; simp⟩⟩, by simp [RowKit.intOf]; omega⟩
end Go.Proofs.YtabkpbbjodfolaaGreatDoor
namespace Go.Proofs.YtabkpbbjodfolaaGreatDoor
set_option linter.unusedSimpArgs false
open Go.RowKit
set_option linter.unusedVariables false
def vF (num den : Int) : Prop := (1 ≤ den ∧ den ≤ 15) ∧ (1 ≤ num ∧ num ≤ 64 * den) ∧ Nat.gcd num.natAbs den.natAbs = 1
instance (a b : Int) : Decidable (vF a b) := inferInstanceAs (Decidable (_ ∧ _ ∧ _))
set_option maxHeartbeats 1600000 in
set_option maxRecDepth 100000 in
theorem wvalid_any (num den : Int) (w : World) : Calls Tryz.prog 199 #[.agg #[.int .i64 num, .int .i64 den]] w fun e w' => e = .returned (.bool (decide (vF num den))) ∧ Below w.heap.size w w' := by
  have hu : Below w.heap.size w (w.alloc (.cells #[.int .i64 num, .int .i64 den] 87)) := (Below.refl _ _).alloc (Nat.le_refl _) _; have HU : Sl _ := ⟨hu⟩; clear hu; obtain ⟨r, hr⟩ : ∃ r, decide (vF num den) = r := ⟨_, rfl⟩; rw [hr]; have HR : Sl _ := ⟨hr⟩; clear hr
  by_cases hok : (1 ≤ den ∧ den ≤ 15) ∧ (1 ≤ num ∧ num ≤ 64 * den)
  · obtain ⟨⟨h1, h2⟩, h3, h4⟩ := hok; obtain ⟨n, rfl⟩ := Int.eq_ofNat_of_zero_le (show 0 ≤ num by omega); obtain ⟨d, rfl⟩ := Int.eq_ofNat_of_zero_le (show 0 ≤ den by omega); have HG : Sl _ := ⟨fun W : World => wgcd_any n d W (by omega) (by omega)⟩
    have HV : Sl (r = (((Nat.gcd n d : Nat) : Int) == 1)) := ⟨by
      rw [← HR.out, Bool.eq_iff_iff, decide_eq_true_iff, beq_iff_eq]; unfold vF; simp only [Int.natAbs_natCast]
      omega⟩
    have hw : IntKind.i64.wrap (64 * (d : Int)) = 64 * (d : Int) := (by rw [IntKind.wrap_i64]; omega); have g1 : ¬ (d : Int) < 1 := (by omega); have g2 : ¬ 15 < (d : Int) := (by omega); have g3 : ¬ (n : Int) < 1 := (by omega); have g4 : ¬ 64 * (d : Int) < (n : Int) := (by omega); generalize Nat.gcd n d = g at *
    go_enter Tryz.func199, Tryz.ntmps199; go_wp2_with fail; refine (HG.out _).mono ?_; rintro e w1 ⟨rfl, m, rfl⟩; go_wp2_with fail; go_ret; exact ⟨by rw [HV.out]; rfl, below_drewN HU.out m⟩
  · have HV : Sl (r = false) := ⟨by
      rw [← HR.out, decide_eq_false_iff_not]; unfold vF; intro h
      exact hok ⟨h.1, h.2.1⟩⟩
    have hcase : den < 1 ∨ (¬ den < 1 ∧ 15 < den) ∨ (¬ den < 1 ∧ ¬ 15 < den ∧ num < 1) ∨ (¬ den < 1 ∧ ¬ 15 < den ∧ ¬ num < 1 ∧ 64 * den < num) := (by omega); clear hok HR; rcases hcase with h1 | ⟨h1, h2⟩ | ⟨h1, h2, h3⟩ | ⟨h1, h2, h3, h4⟩
    · have d1 : decide (1 ≤ den) = false := decide_eq_false (by omega); go_enter Tryz.func199, Tryz.ntmps199; go_wp2_with fail; go_ret; exact ⟨by rw [HV.out]; rfl, HU.out⟩
    · have d1 : decide (1 ≤ den) = true := decide_eq_true (by omega); have d2 : decide (den ≤ 15) = false := decide_eq_false (by omega); go_enter Tryz.func199, Tryz.ntmps199; go_wp2_with fail; go_ret; exact ⟨by rw [HV.out]; rfl, HU.out⟩
    · have d1 : decide (1 ≤ den) = true := decide_eq_true (by omega); have d2 : decide (den ≤ 15) = true := decide_eq_true (by omega); have d3 : decide (1 ≤ num) = false := decide_eq_false (by omega); go_enter Tryz.func199, Tryz.ntmps199; go_wp2_with fail; go_ret; exact ⟨by rw [HV.out]; rfl, HU.out⟩
    · have d1 : decide (1 ≤ den) = true := decide_eq_true (by omega); have d2 : decide (den ≤ 15) = true := decide_eq_true (by omega); have d3 : decide (1 ≤ num) = true := decide_eq_true (by omega); have hw : IntKind.i64.wrap (64 * den) = 64 * den := (by rw [IntKind.wrap_i64]; omega); have d4 : decide (num ≤ 64 * den) = false := decide_eq_false (by omega); go_enter Tryz.func199, Tryz.ntmps199; go_wp2_with fail; go_ret; exact ⟨by rw [HV.out]; rfl, HU.out⟩
end Go.Proofs.YtabkpbbjodfolaaGreatDoor
