/- The law WidePowers returns true, where awake does. -/
import Derived.Test.YtgjbaamhpapeeaaDoorLawQ
import Derived.Test.YtgjbaamhpapeeaaDoorLawS
namespace Go.Proofs.YtgjbaamhpapeeaaDoor
open Go.RowKit
set_option linter.unusedVariables false
set_option linter.unusedSimpArgs false

theorem powS_len (la : List Nat) (k : Int) : (powS la k).1.length ≤ 512 := by
  unfold powS
  split
  · split
    · simp
    · exact fitS_len _
  · simp

set_option maxHeartbeats 3200000 in
theorem powers_main (HAW : Awake) (A : Option Addr) (n c : Nat) (la : List Nat) (k : Int) (w : World) (HT : Sl (Tab10 w)) (HA : Sl (Arg w A n c la))
    (hn : n ≤ 6 ∨ 512 < n ∧ n ≤ 520) :
    Calls Tryd.prog 6 #[.slice A n c, .int .i64 k] w fun e w' => e = .returned (.bool true) ∧ Below w.heap.size w w' := by
  have L1 : Sl _ := ⟨powS_len la k⟩
  rcases hn with hn | ⟨hn, hn'⟩
  all_goals (
    go_enter Tryd.func6, Tryd.ntmps6
    go_wp2_with fail
    refine (Pow_any A n c la k w HA.out).mono ?_; rintro e w1 ⟨⟨A1, c1, rfl, k1, k2, k3⟩, hb1⟩
    have G1 : Sl _ := ⟨k3⟩
    clear k1 k2 k3
    go_wp2_with fail
    refine (rPow_any A n c la k w1 (HA.out.below hb1)).mono ?_; rintro e w2 ⟨⟨A2, c2, rfl, k1, k2, k3⟩, hb2⟩
    have u2 := hb1.trans (hb2.mono hb1.size)
    have G2 : Sl _ := ⟨And.intro (G1.out.below hb2) k3⟩
    clear k1 k2 k3 hb1 hb2 G1
    go_wp2_with fail
    refine (Root_any A n c la k w2 (HA.out.below u2)).mono ?_; rintro e w3 ⟨⟨l3, er3, hr3, A3, c3, rfl, k1, k2, k3⟩, hb3⟩
    have u3 := u2.trans (hb3.mono u2.size)
    have G3 : Sl _ := ⟨k3⟩
    have R3 : Sl _ := ⟨hr3⟩
    have G23 : Sl _ := ⟨And.intro (G2.out.1.below hb3) (G2.out.2.below hb3)⟩
    clear k1 k2 k3 hb3 u2 G2 hr3
    go_wp2_with fail
    refine (rRoot_any A n c la k w3 (HA.out.below u3)).mono ?_; rintro e w4 ⟨⟨l4, er4, hr4, A4, c4, rfl, k1, k2, k3⟩, hb4⟩
    obtain ⟨he1, he2⟩ := R3.out.uniq hr4
    subst he1 he2
    have L2 : Sl _ := ⟨hr4.len⟩
    have u4 := u3.trans (hb4.mono u3.size)
    have G4 : Sl _ := ⟨And.intro (G3.out.below hb4) k3⟩
    have G24 : Sl _ := ⟨And.intro (G23.out.1.below hb4) (G23.out.2.below hb4)⟩
    clear k1 k2 k3 hb4 u3 G3 G23 hr4 R3
    generalize (powS la k).1 = s1 at *
    generalize (powS la k).2 = e1 at *
    go_wp2_with fail
    refine (same_self A1 A2 c1 c2 s1 w4 G24.out.1 G24.out.2 L1.out).mono ?_; rintro e w5 ⟨rfl, hb5⟩
    have u5 := u4.trans (hb5.mono u4.size)
    have G45 : Sl _ := ⟨And.intro (G4.out.1.below hb5) (G4.out.2.below hb5)⟩
    clear hb5 u4 G24 G4
    go_wp2_with fail
    refine (same_self A3 A4 c3 c4 l3 w5 G45.out.1 G45.out.2 L2.out).mono ?_; rintro e w6 ⟨rfl, hb6⟩
    have u6 := u5.trans (hb6.mono u5.size)
    clear hb6 u5 G45
    go_wp2_with fail
    refine (HAW w6 (HT.out.below u6)).mono ?_; rintro e w8 ⟨rfl, hb8⟩
    go_wp2_with fail
    go_ret
    exact ⟨rfl, u6.trans (hb8.mono u6.size)⟩)

set_option maxHeartbeats 1600000 in
theorem powers_any (HAW : Awake) (A : Option Addr) (n c : Nat) (la : List Nat) (k : Int) (hk : -9223372036854775808 ≤ k ∧ k < 9223372036854775808) (w : World) (ha : Arg w A n c la) (ht : Tab10 w) :
    Calls Tryd.prog 6 #[.slice A n c, .int .i64 k] w fun e w' => e = .returned (.bool true) ∧ Below w.heap.size w w' := by
  by_cases h : n ≤ 6 ∨ 512 < n ∧ n ≤ 520
  · exact powers_main HAW A n c la k w ⟨ht⟩ ⟨ha⟩ h
  · have HT : Sl _ := ⟨ht⟩
    have hm1 := ha.2
    unfold maxLen at hm1
    obtain ⟨p1, p2⟩ := hm1
    clear ht ha
    have hc : (6 < n ∧ n ≤ 512) ∨ 520 < n := by omega
    clear h hk
    rcases hc with ⟨h1, h2⟩ | h1
    all_goals (
      go_enter Tryd.func6, Tryd.ntmps6
      go_wp2_with fail
      refine (HAW w HT.out).mono ?_; rintro e w1 ⟨rfl, hb1⟩
      go_wp2_with fail
      go_ret
      exact ⟨rfl, hb1⟩)
end Go.Proofs.YtgjbaamhpapeeaaDoor
