/- The law WideDivides returns true, where awake does. -/
import Derived.Test.YtgjbaamhpapeeaaDoorLawM
import Derived.Test.YtgjbaamhpapeeaaDoorLawK
namespace Go.Proofs.YtgjbaamhpapeeaaDoor
open Go.RowKit
set_option linter.unusedVariables false
set_option linter.unusedSimpArgs false

theorem gcdS_len (la lb : List Nat) : (gcdS la lb).1.length ≤ 512 := by
  unfold gcdS
  split
  · exact fitS_len _
  · simp
theorem divS_len (la lb : List Nat) (ha : ∀ x ∈ la, x < LB) (hb : ∀ x ∈ lb, x < LB) : (divS la lb).1.length ≤ 512 ∧ (divS la lb).2.1.length ≤ 512 := by
  unfold divS
  split
  · rename_i h
    have hl : la.length ≤ 512 := by
      have := badE_zero.1 h la (by simp)
      simp [validL] at this
      exact this.1
    split
    · simp
    · exact ⟨val_len ha hl (Nat.div_le_self _ _), val_len ha hl (Nat.mod_le _ _)⟩
  · simp

set_option maxHeartbeats 3200000 in
theorem divides_main (HAW : Awake) (A : Option Addr) (n c : Nat) (la : List Nat) (B : Option Addr) (m d : Nat) (lb : List Nat) (w : World) (HT : Sl (Tab10 w)) (HA : Sl (Arg w A n c la)) (HB : Sl (Arg w B m d lb))
    (hn : n ≤ 12 ∨ 512 < n ∧ n ≤ 520) (hm : m ≤ 12 ∨ 512 < m ∧ m ≤ 520) :
    Calls Tryd.prog 3 #[.slice A n c, .slice B m d] w fun e w' => e = .returned (.bool true) ∧ Below w.heap.size w w' := by
  have L1 : Sl _ := ⟨divS_len la lb HA.out.1.2 HB.out.1.2⟩
  have L2 : Sl _ := ⟨gcdS_len la lb⟩
  rcases hn with hn | ⟨hn, hn'⟩ <;> rcases hm with hm | ⟨hm, hm'⟩
  all_goals (
    go_enter Tryd.func3, Tryd.ntmps3
    go_wp2_with fail
    refine (DivMod_any A B n m c d la lb w HA.out HB.out).mono ?_; rintro e w1 ⟨⟨A1, c1, B1, d1, rfl, k1, k2⟩, hb1⟩
    have G1 : Sl _ := ⟨And.intro k1 k2⟩
    clear k1 k2
    go_wp2_with fail
    refine (rDivMod_any A B n m c d la lb w1 (HA.out.below hb1) (HB.out.below hb1)).mono ?_; rintro e w2 ⟨⟨A2, c2, B2, d2, rfl, k1, k2⟩, hb2⟩
    have u2 := hb1.trans (hb2.mono hb1.size)
    have G2 : Sl _ := ⟨And.intro k1 k2⟩
    have G12 : Sl _ := ⟨And.intro (G1.out.1.below hb2) (G1.out.2.below hb2)⟩
    clear k1 k2 hb1 hb2 G1
    go_wp2_with fail
    refine (Gcd_any A B n m c d la lb w2 (HA.out.below u2) (HB.out.below u2)).mono ?_; rintro e w3 ⟨⟨A3, c3, rfl, k1, k2, k3⟩, hb3⟩
    have u3 := u2.trans (hb3.mono u2.size)
    have G3 : Sl _ := ⟨k3⟩
    have G23 : Sl _ := ⟨And.intro (G2.out.1.below hb3) (G2.out.2.below hb3)⟩
    have G13 : Sl _ := ⟨And.intro (G12.out.1.below hb3) (G12.out.2.below hb3)⟩
    clear k1 k2 k3 hb3 u2 G2 G12
    go_wp2_with fail
    refine (rGcd_any A B n m c d la lb w3 (HA.out.below u3) (HB.out.below u3)).mono ?_; rintro e w4 ⟨⟨A4, c4, rfl, k1, k2, k3⟩, hb4⟩
    have u4 := u3.trans (hb4.mono u3.size)
    have G4 : Sl _ := ⟨And.intro (G3.out.below hb4) k3⟩
    have G24 : Sl _ := ⟨And.intro (G23.out.1.below hb4) (G23.out.2.below hb4)⟩
    have G14 : Sl _ := ⟨And.intro (G13.out.1.below hb4) (G13.out.2.below hb4)⟩
    clear k1 k2 k3 hb4 u3 G3 G23 G13
    generalize (divS la lb).1 = s1 at *
    generalize (divS la lb).2.1 = s2 at *
    generalize (divS la lb).2.2 = e1 at *
    generalize (gcdS la lb).1 = s3 at *
    generalize (gcdS la lb).2 = e3 at *
    go_wp2_with fail
    refine (same_self A1 A2 c1 c2 s1 w4 G14.out.1.1 G24.out.1.1 L1.out.1).mono ?_; rintro e w5 ⟨rfl, hb5⟩
    have u5 := u4.trans (hb5.mono u4.size)
    have G15 : Sl _ := ⟨And.intro (G14.out.2.below hb5) (G24.out.2.below hb5)⟩
    have G45 : Sl _ := ⟨And.intro (G4.out.1.below hb5) (G4.out.2.below hb5)⟩
    clear hb5 u4 G14 G24 G4
    go_wp2_with fail
    refine (same_self B1 B2 d1 d2 s2 w5 G15.out.1.1 G15.out.2.1 L1.out.2).mono ?_; rintro e w6 ⟨rfl, hb6⟩
    have u6 := u5.trans (hb6.mono u5.size)
    have G46 : Sl _ := ⟨And.intro (G45.out.1.below hb6) (G45.out.2.below hb6)⟩
    clear hb6 u5 G15 G45
    go_wp2_with fail
    refine (same_self A3 A4 c3 c4 s3 w6 G46.out.1 G46.out.2 L2.out).mono ?_; rintro e w7 ⟨rfl, hb7⟩
    have u7 := u6.trans (hb7.mono u6.size)
    clear hb7 u6 G46
    go_wp2_with fail
    refine (HAW w7 (HT.out.below u7)).mono ?_; rintro e w8 ⟨rfl, hb8⟩
    go_wp2_with fail
    go_ret
    exact ⟨rfl, u7.trans (hb8.mono u7.size)⟩)

set_option maxHeartbeats 1600000 in
theorem divides_any (HAW : Awake) (A : Option Addr) (n c : Nat) (la : List Nat) (B : Option Addr) (m d : Nat) (lb : List Nat) (w : World) (ha : Arg w A n c la) (hb : Arg w B m d lb) (ht : Tab10 w) :
    Calls Tryd.prog 3 #[.slice A n c, .slice B m d] w fun e w' => e = .returned (.bool true) ∧ Below w.heap.size w w' := by
  by_cases h : (n ≤ 12 ∨ 512 < n ∧ n ≤ 520) ∧ (m ≤ 12 ∨ 512 < m ∧ m ≤ 520)
  · exact divides_main HAW A n c la B m d lb w ⟨ht⟩ ⟨ha⟩ ⟨hb⟩ h.1 h.2
  · have HT : Sl _ := ⟨ht⟩
    have hm1 := ha.2
    have hm2 := hb.2
    unfold maxLen at hm1 hm2
    obtain ⟨p1, p2⟩ := hm1
    obtain ⟨p3, p4⟩ := hm2
    clear ht ha hb
    have hc : (12 < n ∧ n ≤ 512) ∨ (n ≤ 12 ∧ 12 < m ∧ m ≤ 512) ∨ (n ≤ 12 ∧ 520 < m) ∨ (512 < n ∧ 12 < m ∧ m ≤ 512) ∨ (512 < n ∧ n ≤ 520 ∧ 520 < m) ∨ (520 < n ∧ m ≤ 12) ∨ (520 < n ∧ 512 < m) := by omega
    clear h
    rcases hc with ⟨h1, h2⟩ | ⟨h1, h2, h3⟩ | ⟨h1, h2⟩ | ⟨h1, h2, h3⟩ | ⟨h1, h2, h3⟩ | ⟨h1, h2⟩ | ⟨h1, h2⟩
    all_goals (
      go_enter Tryd.func3, Tryd.ntmps3
      go_wp2_with fail
      refine (HAW w HT.out).mono ?_; rintro e w1 ⟨rfl, hb1⟩
      go_wp2_with fail
      go_ret
      exact ⟨rfl, hb1⟩)
end Go.Proofs.YtgjbaamhpapeeaaDoor
