/- The law's far; the law WideAdds returns true, where awake does. -/
import Derived.Test.YtgjbaamhpapeeaaDoorLawI
namespace Go.Proofs.YtgjbaamhpapeeaaDoor
open Go.RowKit
set_option linter.unusedVariables false
set_option linter.unusedSimpArgs false

def farS (n k : Nat) : Bool := decide (k < n) && decide (n < 511) || decide (520 < n)
theorem farS_false {n k : Nat} (h : farS n k = false) : n ≤ 520 := by
  simp [farS] at h; omega
set_option maxHeartbeats 400000 in
theorem far_any (A : Option Addr) (n c k : Nat) (w : World) (hc : n ≤ c) (hm : c ≤ maxLen) (hk : k ≤ 1000) :
    Calls Tryd.prog 34 #[.slice A n c, .int .i64 k] w fun e w' => e = .returned (.bool (farS n k)) ∧ w = w' := by
  unfold maxLen at hm
  by_cases h1 : k < n
  · by_cases h2 : n < 511
    · have e : farS n k = true := by simp [farS, h1, h2]
      rw [e]
      go_enter Tryd.func34, Tryd.ntmps34
      go_wp2_with fail
      go_ret
      exact ⟨rfl, rfl⟩
    · by_cases h3 : 520 < n
      · have e : farS n k = true := by simp [farS, h3]
        rw [e]
        have h2' : decide ((n : Int) < 511) = false := by rw [decide_eq_false_iff_not]; omega
        go_enter Tryd.func34, Tryd.ntmps34
        go_wp2_with fail
        go_ret
        exact ⟨by simp; try omega, rfl⟩
      · have e : farS n k = false := by simp [farS, h2, h3]; try omega
        rw [e]
        have h2' : decide ((n : Int) < 511) = false := by rw [decide_eq_false_iff_not]; omega
        have h3' : decide (520 < (n : Int)) = false := by rw [decide_eq_false_iff_not]; omega
        go_enter Tryd.func34, Tryd.ntmps34
        go_wp2_with fail
        go_ret
        exact ⟨by simp; try omega, rfl⟩
  · by_cases h3 : 520 < n
    · have e : farS n k = true := by simp [farS, h3]
      rw [e]
      have h1' : decide ((k : Int) < (n : Int)) = false := by rw [decide_eq_false_iff_not]; omega
      go_enter Tryd.func34, Tryd.ntmps34
      go_wp2_with fail
      go_ret
      exact ⟨by simp; try omega, rfl⟩
    · have e : farS n k = false := by simp [farS, h1, h3]; try omega
      rw [e]
      have h1' : decide ((k : Int) < (n : Int)) = false := by rw [decide_eq_false_iff_not]; omega
      have h3' : decide (520 < (n : Int)) = false := by rw [decide_eq_false_iff_not]; omega
      go_enter Tryd.func34, Tryd.ntmps34
      go_wp2_with fail
      go_ret
      exact ⟨by simp; try omega, rfl⟩

set_option maxHeartbeats 1600000 in
theorem adds_any (HAW : Awake) (A : Option Addr) (n c : Nat) (la : List Nat) (B : Option Addr) (m d : Nat) (lb : List Nat) (w : World) (ha : Arg w A n c la) (hb : Arg w B m d lb) (ht : Tab10 w) :
    Calls Tryd.prog 7 #[.slice A n c, .slice B m d] w fun e w' => e = .returned (.bool true) ∧ Below w.heap.size w w' := by
  have HT : Sl _ := ⟨ht⟩
  have HA : Sl _ := ⟨ha⟩
  have HB : Sl _ := ⟨hb⟩
  have FA : Sl _ := ⟨far_any A n c 260 w ha.2.1 ha.2.2 (by decide)⟩
  have FB : Sl _ := ⟨far_any B m d 260 w hb.2.1 hb.2.2 (by decide)⟩
  clear ht ha hb
  rcases hfa : farS n 260 with _ | _
  · rcases hfb : farS m 260 with _ | _
    · have hn := farS_false hfa
      have hm := farS_false hfb
      rw [hfa] at FA
      rw [hfb] at FB
      clear hfa hfb
      go_enter Tryd.func7, Tryd.ntmps7
      go_wp2_with fail
      refine FA.out.mono ?_; rintro e w' ⟨rfl, rfl⟩
      go_wp2_with fail
      refine FB.out.mono ?_; rintro e w' ⟨rfl, rfl⟩
      go_wp2_with fail
      refine (Add_any A B n m c d la lb w HA.out HB.out).mono ?_; rintro e w1 ⟨⟨A1, c1, rfl, k1, k2, k3⟩, hb1⟩
      have G1 : Sl _ := ⟨k3⟩
      clear k1 k2 k3
      go_wp2_with fail
      refine (rAdd_any A B n m c d la lb w1 (HA.out.below hb1) (HB.out.below hb1)).mono ?_; rintro e w2 ⟨⟨A2, c2, rfl, k1, k2, k3⟩, hb2⟩
      have u2 := hb1.trans (hb2.mono hb1.size)
      have G2 : Sl _ := ⟨And.intro (G1.out.below hb2) k3⟩
      clear k1 k2 k3 hb1 hb2 G1
      go_wp2_with fail
      refine (Sub_any A B n m c d la lb w2 (HA.out.below u2) (HB.out.below u2)).mono ?_; rintro e w3 ⟨⟨A3, c3, rfl, k1, k2, k3⟩, hb3⟩
      have u3 := u2.trans (hb3.mono u2.size)
      have G3 : Sl _ := ⟨k3⟩
      have G23 : Sl _ := ⟨And.intro (G2.out.1.below hb3) (G2.out.2.below hb3)⟩
      clear k1 k2 k3 hb3 u2 G2
      go_wp2_with fail
      refine (rSub_any A B n m c d la lb w3 (HA.out.below u3) (HB.out.below u3)).mono ?_; rintro e w4 ⟨⟨A4, c4, rfl, k1, k2, k3⟩, hb4⟩
      have u4 := u3.trans (hb4.mono u3.size)
      have G4 : Sl _ := ⟨And.intro (G3.out.below hb4) k3⟩
      have G24 : Sl _ := ⟨And.intro (G23.out.1.below hb4) (G23.out.2.below hb4)⟩
      clear k1 k2 k3 hb4 u3 G3 G23
      go_wp2_with fail
      refine (Mul_any A B n m c d la lb w4 (HA.out.below u4) (HB.out.below u4)).mono ?_; rintro e w5 ⟨⟨A5, c5, rfl, k1, k2, k3⟩, hb5⟩
      have u5 := u4.trans (hb5.mono u4.size)
      have G5 : Sl _ := ⟨k3⟩
      have G45 : Sl _ := ⟨And.intro (G4.out.1.below hb5) (G4.out.2.below hb5)⟩
      have G25 : Sl _ := ⟨And.intro (G24.out.1.below hb5) (G24.out.2.below hb5)⟩
      clear k1 k2 k3 hb5 u4 G4 G24
      go_wp2_with fail
      refine (rMul_any A B n m c d la lb w5 (HA.out.below u5) (HB.out.below u5)).mono ?_; rintro e w6 ⟨⟨A6, c6, rfl, k1, k2, k3⟩, hb6⟩
      have u6 := u5.trans (hb6.mono u5.size)
      have G6 : Sl _ := ⟨And.intro (G5.out.below hb6) k3⟩
      have G46 : Sl _ := ⟨And.intro (G45.out.1.below hb6) (G45.out.2.below hb6)⟩
      have G26 : Sl _ := ⟨And.intro (G25.out.1.below hb6) (G25.out.2.below hb6)⟩
      clear k1 k2 k3 hb6 u5 G5 G45 G25
      have L1 : Sl _ := ⟨plusS_len la lb⟩
      have L2 : Sl _ := ⟨subS_len la lb⟩
      have L3 : Sl _ := ⟨timesS_len la lb⟩
      generalize (plusS la lb).1 = s1 at *
      generalize (plusS la lb).2 = e1 at *
      generalize (subS la lb).1 = s2 at *
      generalize (subS la lb).2 = e2 at *
      generalize (timesS la lb).1 = s3 at *
      generalize (timesS la lb).2 = e3 at *
      go_wp2_with fail
      refine (same_self A1 A2 c1 c2 s1 w6 G26.out.1 G26.out.2 L1.out).mono ?_; rintro e w7 ⟨rfl, hb7⟩
      have u7 := u6.trans (hb7.mono u6.size)
      have G47 : Sl _ := ⟨And.intro (G46.out.1.below hb7) (G46.out.2.below hb7)⟩
      have G67 : Sl _ := ⟨And.intro (G6.out.1.below hb7) (G6.out.2.below hb7)⟩
      clear hb7 u6 G46 G6 G26
      go_wp2_with fail
      refine (same_self A3 A4 c3 c4 s2 w7 G47.out.1 G47.out.2 L2.out).mono ?_; rintro e w8 ⟨rfl, hb8⟩
      have u8 := u7.trans (hb8.mono u7.size)
      have G68 : Sl _ := ⟨And.intro (G67.out.1.below hb8) (G67.out.2.below hb8)⟩
      clear hb8 u7 G47 G67
      go_wp2_with fail
      refine (same_self A5 A6 c5 c6 s3 w8 G68.out.1 G68.out.2 L3.out).mono ?_; rintro e w9 ⟨rfl, hb9⟩
      have u9 := u8.trans (hb9.mono u8.size)
      clear hb9 u8 G68
      go_wp2_with fail
      refine (HAW w9 (HT.out.below u9)).mono ?_; rintro e w10 ⟨rfl, hb10⟩
      go_wp2_with fail
      go_ret
      exact ⟨rfl, u9.trans (hb10.mono u9.size)⟩
    · rw [hfa] at FA
      rw [hfb] at FB
      clear hfa hfb
      go_enter Tryd.func7, Tryd.ntmps7
      go_wp2_with fail
      refine FA.out.mono ?_; rintro e w' ⟨rfl, rfl⟩
      go_wp2_with fail
      refine FB.out.mono ?_; rintro e w' ⟨rfl, rfl⟩
      go_wp2_with fail
      refine (HAW w HT.out).mono ?_; rintro e w1 ⟨rfl, hb1⟩
      go_wp2_with fail
      go_ret
      exact ⟨rfl, hb1⟩
  · rw [hfa] at FA
    clear hfa FB
    go_enter Tryd.func7, Tryd.ntmps7
    go_wp2_with fail
    refine FA.out.mono ?_; rintro e w' ⟨rfl, rfl⟩
    go_wp2_with fail
    refine (HAW w HT.out).mono ?_; rintro e w1 ⟨rfl, hb1⟩
    go_wp2_with fail
    go_ret
    exact ⟨rfl, hb1⟩
end Go.Proofs.YtgjbaamhpapeeaaDoor
