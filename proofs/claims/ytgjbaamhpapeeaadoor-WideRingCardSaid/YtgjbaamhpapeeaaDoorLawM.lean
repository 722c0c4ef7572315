/- The law WideOrders returns true, where awake does. -/
import Derived.Test.YtgjbaamhpapeeaaDoorLawJ
import Derived.Test.YtgjbaamhpapeeaaDoorLawK
namespace Go.Proofs.YtgjbaamhpapeeaaDoor
open Go.RowKit
set_option linter.unusedVariables false
set_option linter.unusedSimpArgs false

theorem shiftS_len (la : List Nat) (k : Int) : (shiftS la k).1.length ≤ 512 := by
  unfold shiftS
  split
  · split
    · simp
    · split <;> exact fitS_len _
  · simp

set_option maxHeartbeats 1600000 in
theorem orders_any (HAW : Awake) (A : Option Addr) (n c : Nat) (la : List Nat) (B : Option Addr) (m d : Nat) (lb : List Nat) (k : Int) (hk : -9223372036854775808 ≤ k ∧ k < 9223372036854775808) (w : World) (ha : Arg w A n c la) (hb : Arg w B m d lb) (ht : Tab10 w) :
    Calls Tryd.prog 8 #[.slice A n c, .slice B m d, .int .i64 k] w fun e w' => e = .returned (.bool true) ∧ Below w.heap.size w w' := by
  have HT : Sl _ := ⟨ht⟩
  have HA : Sl _ := ⟨ha⟩
  have HB : Sl _ := ⟨hb⟩
  have HK : Sl _ := ⟨hk⟩
  have FA : Sl _ := ⟨far_any A n c 40 w ha.2.1 ha.2.2 (by decide)⟩
  have FB : Sl _ := ⟨far_any B m d 40 w hb.2.1 hb.2.2 (by decide)⟩
  clear ht ha hb hk
  rcases hfa : farS n 40 with _ | _
  · rcases hfb : farS m 40 with _ | _
    · have hn := farS_false hfa
      have hm := farS_false hfb
      rw [hfa] at FA
      rw [hfb] at FB
      clear hfa hfb
      go_enter Tryd.func8, Tryd.ntmps8
      go_wp2_with fail
      refine FA.out.mono ?_; rintro e w' ⟨rfl, rfl⟩
      go_wp2_with fail
      refine FB.out.mono ?_; rintro e w' ⟨rfl, rfl⟩
      go_wp2_with fail
      refine (Cmp_any A B n m c d la lb w HA.out HB.out).mono ?_; rintro e w1 ⟨rfl, hb1⟩
      go_wp2_with fail
      refine (rCmp_any A B n m c d la lb w1 (HA.out.below hb1) (HB.out.below hb1)).mono ?_; rintro e w2 ⟨rfl, hb2⟩
      have u2 := hb1.trans (hb2.mono hb1.size)
      clear hb1 hb2
      go_wp2_with fail
      refine (Bits_any A n c la w2 (HA.out.below u2)).mono ?_; rintro e w3 ⟨rfl, hb3⟩
      have u3 := u2.trans (hb3.mono u2.size)
      clear hb3 u2
      go_wp2_with fail
      refine (rBits_any A n c la w3 (HA.out.below u3)).mono ?_; rintro e w4 ⟨rfl, hb4⟩
      have u4 := u3.trans (hb4.mono u3.size)
      clear hb4 u3
      go_wp2_with fail
      refine (Shift_any A n c la k w4 (HA.out.below u4)).mono ?_; rintro e w5 ⟨⟨A5, c5, rfl, k1, k2, k3⟩, hb5⟩
      have u5 := u4.trans (hb5.mono u4.size)
      have G5 : Sl _ := ⟨k3⟩
      clear k1 k2 k3 hb5 u4
      go_wp2_with fail
      refine (rShift_any A n c la k w5 (HA.out.below u5) HK.out).mono ?_; rintro e w6 ⟨⟨A6, c6, rfl, k1, k2, k3⟩, hb6⟩
      have u6 := u5.trans (hb6.mono u5.size)
      have G6 : Sl _ := ⟨And.intro (G5.out.below hb6) k3⟩
      clear k1 k2 k3 hb6 u5 G5
      have L1 : Sl _ := ⟨shiftS_len la k⟩
      generalize (shiftS la k).1 = s1 at *
      generalize (shiftS la k).2 = e1 at *
      generalize (cmpS la lb).1 = s2 at *
      generalize (cmpS la lb).2 = e2 at *
      generalize (bitsS la).1 = s3 at *
      generalize (bitsS la).2 = e3 at *
      go_wp2_with fail
      refine (same_self A5 A6 c5 c6 s1 w6 G6.out.1 G6.out.2 L1.out).mono ?_; rintro e w7 ⟨rfl, hb7⟩
      have u7 := u6.trans (hb7.mono u6.size)
      clear hb7 u6 G6
      go_wp2_with fail
      refine (HAW w7 (HT.out.below u7)).mono ?_; rintro e w8 ⟨rfl, hb8⟩
      go_wp2_with fail
      go_ret
      exact ⟨rfl, u7.trans (hb8.mono u7.size)⟩
    · rw [hfa] at FA
      rw [hfb] at FB
      clear hfa hfb
      go_enter Tryd.func8, Tryd.ntmps8
      go_wp2_with fail
      refine FA.out.mono ?_; rintro e w' ⟨rfl, rfl⟩
      go_wp2_with fail
      refine FB.out.mono ?_; rintro e w' ⟨rfl, rfl⟩
      go_wp2_with fail
      refine (HAW w HT.out).mono ?_; rintro e w1 ⟨rfl, hb1⟩
      go_wp2_with fail
      go_ret
      exact ⟨rfl, hb1⟩
  · rw [hfa] at FA
    clear hfa FB
    go_enter Tryd.func8, Tryd.ntmps8
    go_wp2_with fail
    refine FA.out.mono ?_; rintro e w' ⟨rfl, rfl⟩
    go_wp2_with fail
    refine (HAW w HT.out).mono ?_; rintro e w1 ⟨rfl, hb1⟩
    go_wp2_with fail
    go_ret
    exact ⟨rfl, hb1⟩
end Go.Proofs.YtgjbaamhpapeeaaDoor
