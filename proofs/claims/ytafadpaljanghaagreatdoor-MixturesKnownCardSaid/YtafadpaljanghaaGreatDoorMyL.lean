/- Package mixtures: compass, last. -/
import Derived.Test.YtafadpaljanghaaGreatDoorMyK
namespace Go.Proofs.YtafadpaljanghaaGreatDoor
set_option linter.unusedSimpArgs false
open Go.RowKit
set_option linter.unusedVariables false

theorem compass_any (a b : Int) (w : World) (ha : i64 a) (hb : i64 b) : Calls Tryz.prog 67 #[.int .i64 a, .int .i64 b] w fun e w' => e = .returned (.bool (decide (0 ≤ a) && decide (b ≤ 127) && decide (a ≤ b) && decide (b - a < 61))) ∧ w' = w := by
  obtain ⟨ha1, ha2⟩ := ha
  obtain ⟨hb1, hb2⟩ := hb
  by_cases h1 : 0 ≤ a
  · by_cases h2 : b ≤ 127
    · by_cases h3 : a ≤ b
      · have hw : IntKind.i64.wrap (b - a) = b - a := by rw [IntKind.wrap_i64]; omega
        obtain ⟨r, hr⟩ : ∃ r, decide (b - a < 61) = r := ⟨_, rfl⟩
        have d1 := decide_eq_true h1
        have d2 := decide_eq_true h2
        have d3 := decide_eq_true h3
        rw [hr, d1, d2, d3]
        simp only [Bool.true_and]
        go_enter Tryz.func67, Tryz.ntmps67
        go_wp2_with fail
        go_ret
        exact ⟨rfl, rfl⟩
      · have d1 := decide_eq_true h1
        have d2 := decide_eq_true h2
        have d3 : decide (a ≤ b) = false := decide_eq_false h3
        rw [d1, d2, d3]
        simp only [Bool.true_and, Bool.false_and, Bool.and_false]
        go_enter Tryz.func67, Tryz.ntmps67
        go_wp2_with fail
        go_ret
        exact ⟨rfl, rfl⟩
    · have d1 := decide_eq_true h1
      have d2 : decide (b ≤ 127) = false := decide_eq_false h2
      rw [d1, d2]
      simp only [Bool.true_and, Bool.false_and, Bool.and_false]
      go_enter Tryz.func67, Tryz.ntmps67
      go_wp2_with fail
      go_ret
      exact ⟨rfl, rfl⟩
  · have d1 : decide (0 ≤ a) = false := decide_eq_false h1
    rw [d1]
    simp only [Bool.true_and, Bool.false_and, Bool.and_false]
    go_enter Tryz.func67, Tryz.ntmps67
    go_wp2_with fail
    go_ret
    exact ⟨rfl, rfl⟩
set_option maxHeartbeats 800000 in
set_option maxRecDepth 100000 in
/-- last -/
theorem last_any (g : Nat) (a b : Int) (A : Option Addr) (n c : Nat) (L : List Bk) (i : Nat) (w : World) (hB : Blk w g 34 #[.int .i64 a, .int .i64 b, .slice A n c]) (hM : MXA w A n c L) (hi : i < n) (hn : n < 4611686018427387904) (hr : i64 ((mxO a b L).last i)) : Calls Tryz.prog 63 #[.pointer (some ⟨g, 0, none⟩), .int .i64 i] w fun e w' => e = .returned (.int .i64 ((mxO a b L).last i)) ∧ w' = w := by
  have c1 := hB.cell 1
  have c2 := hB.cell 2
  simp at c1 c2
  have hlen := hM.mx.len
  obtain ⟨v, hv⟩ : ∃ v, (mxO a b L).last i = v := ⟨_, rfl⟩
  rw [hv] at hr ⊢
  obtain ⟨hr1, hr2⟩ := hr
  by_cases h : i + 1 < n
  · obtain ⟨k, hk⟩ : ∃ k, L[i + 1]? = some k := ⟨_, List.getElem?_eq_getElem (by omega)⟩
    obtain ⟨j, hj⟩ : ∃ j, i + 1 = j := ⟨_, rfl⟩
    rw [hj] at hk h
    obtain ⟨ad, rfl, hab, e1, e2⟩ := hM.mx.cells2 hk
    have hfr : k.fr - 1 = v := by
      rw [← hv]
      unfold Mx.last
      rw [if_pos (by show i + 1 < L.length; omega), hj, (mxO_at hk).1]
    have HF : Sl _ := ⟨hfr⟩
    obtain ⟨z, hz⟩ : ∃ z, k.fr = z := ⟨_, rfl⟩
    rw [hz] at e1 hfr
    have hij : (i : Int) + 1 = (j : Int) := by omega
    have hwz : IntKind.i64.wrap (z - 1) = v := by rw [hfr, IntKind.wrap_i64]; omega
    have hjn : (j : Int) < (n : Int) := by omega
    have HZ : Sl _ := ⟨And.intro hv hfr⟩
    clear e2 hk hv hj hfr hz HF hM hB hlen
    go_enter Tryz.func63, Tryz.ntmps63
    go_wp2_with fail
    go_ret
    exact ⟨rfl, rfl⟩
  · have hvb : b = v := by
      rw [← hv]
      unfold Mx.last
      rw [if_neg (by show ¬ i + 1 < L.length; omega)]
      rfl
    subst hvb
    have hnl : ¬ (i : Int) + 1 < (n : Int) := by omega
    clear hM hB hlen hv
    go_enter Tryz.func63, Tryz.ntmps63
    go_wp2_with fail
    go_ret
    exact ⟨rfl, rfl⟩
end Go.Proofs.YtafadpaljanghaaGreatDoor
