/- Footages: package words: valid, Feet; the reference: common, Valid. -/
import Derived.Test.YtbaojmfkjpnfhaaGreatDoorWgc
namespace Go.Proofs.YtbaojmfkjpnfhaaGreatDoor
set_option linter.unusedSimpArgs false
open Go.RowKit
set_option linter.unusedVariables false

def vF (num den : Int) : Prop := (1 ≤ den ∧ den ≤ 15) ∧ (1 ≤ num ∧ num ≤ 64 * den) ∧ Nat.gcd num.natAbs den.natAbs = 1
instance (a b : Int) : Decidable (vF a b) := inferInstanceAs (Decidable (_ ∧ _ ∧ _))
set_option maxHeartbeats 1600000 in
set_option maxRecDepth 100000 in
theorem wvalid_any (num den : Int) (w : World) : Calls Tryz.prog 209 #[.agg #[.int .i64 num, .int .i64 den]] w fun e w' => e = .returned (.bool (decide (vF num den))) ∧ Below w.heap.size w w' := by
  have hu : Below w.heap.size w (w.alloc (.cells #[.int .i64 num, .int .i64 den] 95)) := (Below.refl _ _).alloc (Nat.le_refl _) _
  have HU : Sl _ := ⟨hu⟩
  clear hu
  obtain ⟨r, hr⟩ : ∃ r, decide (vF num den) = r := ⟨_, rfl⟩
  rw [hr]
  have HR : Sl _ := ⟨hr⟩
  clear hr
  by_cases hok : (1 ≤ den ∧ den ≤ 15) ∧ (1 ≤ num ∧ num ≤ 64 * den)
  · obtain ⟨⟨h1, h2⟩, h3, h4⟩ := hok
    obtain ⟨n, rfl⟩ := Int.eq_ofNat_of_zero_le (show 0 ≤ num by omega)
    obtain ⟨d, rfl⟩ := Int.eq_ofNat_of_zero_le (show 0 ≤ den by omega)
    have HG : Sl _ := ⟨fun W : World => wgcd_any n d W (by omega) (by omega)⟩
    have HV : Sl (r = (((Nat.gcd n d : Nat) : Int) == 1)) := ⟨by
      rw [← HR.out, Bool.eq_iff_iff, decide_eq_true_iff, beq_iff_eq]
      unfold vF
      simp only [Int.natAbs_natCast]
      omega⟩
    have hw : IntKind.i64.wrap (64 * (d : Int)) = 64 * (d : Int) := by rw [IntKind.wrap_i64]; omega
    have g1 : ¬ (d : Int) < 1 := by omega
    have g2 : ¬ 15 < (d : Int) := by omega
    have g3 : ¬ (n : Int) < 1 := by omega
    have g4 : ¬ 64 * (d : Int) < (n : Int) := by omega
    generalize Nat.gcd n d = g at *
    go_enter Tryz.func209, Tryz.ntmps209
    go_wp2_with fail
    refine (HG.out _).mono ?_; rintro e w1 ⟨rfl, m, rfl⟩
    go_wp2_with fail
    go_ret
    exact ⟨by rw [HV.out]; rfl, below_drewN HU.out m⟩
  · have HV : Sl (r = false) := ⟨by
      rw [← HR.out, decide_eq_false_iff_not]
      unfold vF
      intro h
      exact hok ⟨h.1, h.2.1⟩⟩
    have hcase : den < 1 ∨ (¬ den < 1 ∧ 15 < den) ∨ (¬ den < 1 ∧ ¬ 15 < den ∧ num < 1) ∨ (¬ den < 1 ∧ ¬ 15 < den ∧ ¬ num < 1 ∧ 64 * den < num) := by omega
    clear hok HR
    rcases hcase with h1 | ⟨h1, h2⟩ | ⟨h1, h2, h3⟩ | ⟨h1, h2, h3, h4⟩
    · have d1 : decide (1 ≤ den) = false := decide_eq_false (by omega)
      go_enter Tryz.func209, Tryz.ntmps209
      go_wp2_with fail
      go_ret
      exact ⟨by rw [HV.out]; rfl, HU.out⟩
    · have d1 : decide (1 ≤ den) = true := decide_eq_true (by omega)
      have d2 : decide (den ≤ 15) = false := decide_eq_false (by omega)
      go_enter Tryz.func209, Tryz.ntmps209
      go_wp2_with fail
      go_ret
      exact ⟨by rw [HV.out]; rfl, HU.out⟩
    · have d1 : decide (1 ≤ den) = true := decide_eq_true (by omega)
      have d2 : decide (den ≤ 15) = true := decide_eq_true (by omega)
      have d3 : decide (1 ≤ num) = false := decide_eq_false (by omega)
      go_enter Tryz.func209, Tryz.ntmps209
      go_wp2_with fail
      go_ret
      exact ⟨by rw [HV.out]; rfl, HU.out⟩
    · have d1 : decide (1 ≤ den) = true := decide_eq_true (by omega)
      have d2 : decide (den ≤ 15) = true := decide_eq_true (by omega)
      have d3 : decide (1 ≤ num) = true := decide_eq_true (by omega)
      have hw : IntKind.i64.wrap (64 * den) = 64 * den := by rw [IntKind.wrap_i64]; omega
      have d4 : decide (num ≤ 64 * den) = false := decide_eq_false (by omega)
      go_enter Tryz.func209, Tryz.ntmps209
      go_wp2_with fail
      go_ret
      exact ⟨by rw [HV.out]; rfl, HU.out⟩
end Go.Proofs.YtbaojmfkjpnfhaaGreatDoor
