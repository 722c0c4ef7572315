/- The reference of chapter 11: keys. -/
import Derived.Test.YtafadpaljanghaaGreatDoorMyL
namespace Go.Proofs.YtafadpaljanghaaGreatDoor
set_option linter.unusedSimpArgs false
open Go.RowKit
set_option linter.unusedVariables false

theorem rkeys_any (a b : Int) (w : World) (ha : i64 a) (hb : i64 b) : Calls Tryz.prog 40 #[.int .i64 a, .int .i64 b] w fun e w' => e = .returned (.bool (decide (0 ≤ a) && decide (b ≤ 127) && decide (a ≤ b) && decide (b - a < 61))) ∧ w' = w := by
  obtain ⟨ha1, ha2⟩ := ha
  obtain ⟨hb1, hb2⟩ := hb
  by_cases h1 : 0 ≤ a
  · by_cases h2 : b ≤ 127
    · by_cases h3 : a ≤ b
      · have hw : IntKind.i64.wrap (b - a) = b - a := by rw [IntKind.wrap_i64]; omega
        obtain ⟨r, hr⟩ : ∃ r, decide (b - a < 61) = r := ⟨_, rfl⟩
        have d1 := decide_eq_true h1
        have d2 := decide_eq_true h2
        have d3 := decide_eq_true h3
        rw [hr, d1, d2, d3]
        simp only [Bool.true_and]
        go_enter Tryz.func40, Tryz.ntmps40
        go_wp2_with fail
        go_ret
        exact ⟨rfl, rfl⟩
      · have d1 := decide_eq_true h1
        have d2 := decide_eq_true h2
        have d3 : decide (a ≤ b) = false := decide_eq_false h3
        rw [d1, d2, d3]
        simp only [Bool.true_and, Bool.false_and, Bool.and_false]
        go_enter Tryz.func40, Tryz.ntmps40
        go_wp2_with fail
        go_ret
        exact ⟨rfl, rfl⟩
    · have d1 := decide_eq_true h1
      have d2 : decide (b ≤ 127) = false := decide_eq_false h2
      rw [d1, d2]
      simp only [Bool.true_and, Bool.false_and, Bool.and_false]
      go_enter Tryz.func40, Tryz.ntmps40
      go_wp2_with fail
      go_ret
      exact ⟨rfl, rfl⟩
  · have d1 : decide (0 ≤ a) = false := decide_eq_false h1
    rw [d1]
    simp only [Bool.true_and, Bool.false_and, Bool.and_false]
    go_enter Tryz.func40, Tryz.ntmps40
    go_wp2_with fail
    go_ret
    exact ⟨rfl, rfl⟩
end Go.Proofs.YtafadpaljanghaaGreatDoor
