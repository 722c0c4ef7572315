/- The law's much; the law WideShares returns true, where awake does. -/
import Derived.Test.YtgjbaamhpapeeaaGreatDoorQuoB
import Derived.Test.YtgjbaamhpapeeaaGreatDoorLawB
import Derived.Test.YtgjbaamhpapeeaaGreatDoorLawI
namespace Go.Proofs.YtgjbaamhpapeeaaGreatDoor
open Go.RowKit
set_option linter.unusedVariables false
set_option linter.unusedSimpArgs false

def muchS (n m : Nat) : Bool := decide (3 < max n m) && decide (max n m ≤ 512) || decide (520 < max n m)
theorem muchS_false {n m : Nat} (h : muchS n m = false) : n ≤ 520 ∧ m ≤ 520 := by
  simp [muchS] at h; omega
set_option maxHeartbeats 800000 in
set_option maxRecDepth 100000 in
theorem much_any (ng : Bool) (A B : Option Addr) (n m c d : Nat) (la lb : List Nat) (w : World) (ha : Arg w A n c la) (hb : Arg w B m d lb) :
    Calls Tryz.prog 6 #[.agg #[.bool ng, .slice A n c, .slice B m d]] w fun e w' => e = .returned (.bool (muchS n m)) ∧ Below w.heap.size w w' := by
  have hu : Below w.heap.size w (w.alloc (.cells #[.bool ng, .slice A n c, .slice B m d] 25)) := (Below.refl _ _).alloc (Nat.le_refl _) _
  have h1 := ha.2
  have h2 := hb.2
  unfold maxLen at h1 h2
  obtain ⟨p1, p2⟩ := h1
  obtain ⟨p3, p4⟩ := h2
  obtain ⟨M, hM⟩ : ∃ M : Nat, M = max n m := ⟨_, rfl⟩
  have hmax : max (n : Int) (m : Int) = (M : Int) := by omega
  have hM2 : M ≤ 9223372036854775807 := by omega
  have e : muchS n m = (decide (3 < M) && decide (M ≤ 512) || decide (520 < M)) := by rw [muchS, ← hM]
  rw [e]
  clear ha hb e hM
  have hc : M ≤ 3 ∨ (3 < M ∧ M ≤ 512) ∨ (512 < M ∧ M ≤ 520) ∨ 520 < M := by omega
  rcases hc with h | ⟨h, h'⟩ | ⟨h, h'⟩ | h
  · rw [show (decide (3 < M) && decide (M ≤ 512) || decide (520 < M)) = false by simp; omega]
    go_enter Tryz.func6, Tryz.ntmps6
    go_wp2_with fail
    go_ret
    exact ⟨by first | rfl | (simp; try omega), hu⟩
  · rw [show (decide (3 < M) && decide (M ≤ 512) || decide (520 < M)) = true by simp; omega]
    go_enter Tryz.func6, Tryz.ntmps6
    go_wp2_with fail
    go_ret
    exact ⟨by first | rfl | (simp; try omega), hu⟩
  · rw [show (decide (3 < M) && decide (M ≤ 512) || decide (520 < M)) = false by simp; omega]
    go_enter Tryz.func6, Tryz.ntmps6
    go_wp2_with fail
    go_ret
    exact ⟨by first | rfl | (simp; try omega), hu⟩
  · rw [show (decide (3 < M) && decide (M ≤ 512) || decide (520 < M)) = true by simp; omega]
    go_enter Tryz.func6, Tryz.ntmps6
    go_wp2_with fail
    go_ret
    exact ⟨by first | rfl | (simp; try omega), hu⟩

theorem RatioRes_form (neg : Bool) (la lb : List Nat) : ∃ ng ln ld er, ln.length ≤ 512 ∧ ld.length ≤ 512 ∧ ∀ e w, RatioRes neg la lb e w = QRes ng ln ld er e w := by
  unfold RatioRes
  by_cases h1 : badE [la, lb] ≠ 0
  · exact ⟨false, [], [], badE [la, lb], by simp, by simp, fun e w => by rw [if_pos h1]⟩
  · by_cases h2 : valOf lb = 0
    · exact ⟨false, [], [], 4, by simp, by simp, fun e w => by rw [if_neg h1, if_pos h2]⟩
    · by_cases h3 : (limbs (valOf la / Nat.gcd (valOf la) (valOf lb))).length ≤ 512 ∧ (limbs (valOf lb / Nat.gcd (valOf la) (valOf lb))).length ≤ 512
      · refine ⟨neg && decide (valOf la ≠ 0), limbs (valOf la / Nat.gcd (valOf la) (valOf lb)), limbs (valOf lb / Nat.gcd (valOf la) (valOf lb)), 0, h3.1, h3.2, fun e w => ?_⟩
        rw [if_neg h1, if_neg h2]
        unfold LowRes lowS
        rw [if_pos h3]
      · refine ⟨false, [], [], 3, by simp, by simp, fun e w => ?_⟩
        rw [if_neg h1, if_neg h2]
        unfold LowRes lowS
        rw [if_neg h3]
theorem QPowRes_form (p : QV) (k : Int) : ∃ ng ln ld er, ln.length ≤ 512 ∧ ld.length ≤ 512 ∧ ∀ e w, QPowRes p k e w = QRes ng ln ld er e w := by
  unfold QPowRes
  by_cases h1 : checkQ (fun _ => p) 1 ≠ 0
  · exact ⟨false, [], [], checkQ (fun _ => p) 1, by simp, by simp, fun e w => by rw [if_pos h1]⟩
  · by_cases h2 : k < -2000 ∨ 2000 < k
    · exact ⟨false, [], [], 2, by simp, by simp, fun e w => by rw [if_neg h1, if_pos h2]⟩
    · by_cases h3 : k < 0 ∧ valOf p.la = 0
      · exact ⟨false, [], [], 4, by simp, by simp, fun e w => by rw [if_neg h1, if_neg h2, if_pos h3]⟩
      · by_cases h4 : (limbs ((if k < 0 then valOf p.lb else valOf p.la) ^ k.natAbs)).length ≤ 512 ∧ (limbs ((if k < 0 then valOf p.la else valOf p.lb) ^ k.natAbs)).length ≤ 512
        · exact ⟨_, _, _, 0, h4.1, h4.2, fun e w => by rw [if_neg h1, if_neg h2, if_neg h3, if_pos h4]⟩
        · exact ⟨false, [], [], 3, by simp, by simp, fun e w => by rw [if_neg h1, if_neg h2, if_neg h3, if_neg h4]⟩
/-- two fractions that came out alike -/
theorem sameQuo_eq (ng : Bool) (ln ld : List Nat) (A B C D : Option Addr) (a b c d : Nat) (w : World) (h1 : Arg w A ln.length a ln) (h2 : Arg w B ld.length b ld) (h3 : Arg w C ln.length c ln) (h4 : Arg w D ld.length d ld) (l1 : ln.length ≤ 512) (l2 : ld.length ≤ 512) :
    Calls Tryz.prog 12 #[.agg #[.bool ng, .slice A ln.length a, .slice B ld.length b], .agg #[.bool ng, .slice C ln.length c, .slice D ld.length d]] w fun e w' => e = .returned (.bool true) ∧ Below w.heap.size w w' :=
  sameQuo_any ⟨ng, A, ln.length, a, B, ld.length, b, ln, ld⟩ ⟨ng, C, ln.length, c, D, ld.length, d, ln, ld⟩ w ⟨h1, h2⟩ ⟨h3, h4⟩ (show ln.length ≤ 4294967296 by omega) (show ld.length ≤ 4294967296 by omega) (show ln.length ≤ 4294967296 by omega) (show ld.length ≤ 4294967296 by omega) rfl rfl rfl

theorem shares_case {M1 M2 : Bool} {k : Int} (h : ¬ (M1 = false ∧ M2 = false ∧ (-12 ≤ k ∧ k ≤ 12 ∨ 2000 < k ∨ k < -2000))) :
    M1 = true ∨ M1 = false ∧ M2 = true ∨ M1 = false ∧ M2 = false ∧ 12 < k ∧ k ≤ 2000 ∨ M1 = false ∧ M2 = false ∧ k < -12 ∧ -2000 ≤ k := by
  cases M1 <;> cases M2 <;> simp at h ⊢ <;> omega

end Go.Proofs.YtgjbaamhpapeeaaGreatDoor
