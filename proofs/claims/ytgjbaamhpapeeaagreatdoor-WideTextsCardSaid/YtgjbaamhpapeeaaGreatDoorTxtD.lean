/- The law WideTexts returns true, where awake does. -/
import Derived.Test.YtgjbaamhpapeeaaGreatDoorTxtC
import Derived.Test.YtgjbaamhpapeeaaGreatDoorLawI
namespace Go.Proofs.YtgjbaamhpapeeaaGreatDoor
open Go.RowKit
open Go.Lib (decDigits)
set_option linter.unusedVariables false
set_option linter.unusedSimpArgs false

/-- is the input looked at? -/
def textsIn (n k : Nat) : Prop := (n ≤ 40 ∨ 512 < n ∧ n ≤ 520) ∧ (k ≤ 200 ∨ 4900 < k ∧ k ≤ 4910)
theorem textsIn_not {n k : Nat} (h : ¬ textsIn n k) : (40 < n ∧ n ≤ 512) ∨ 520 < n ∨ (n ≤ 40 ∧ 200 < k ∧ k ≤ 4900) ∨ (n ≤ 40 ∧ 4910 < k) ∨ (512 < n ∧ n ≤ 520 ∧ 200 < k ∧ k ≤ 4900) ∨ (512 < n ∧ n ≤ 520 ∧ 4910 < k) := by
  unfold textsIn at h; omega
theorem same_parse (A B : Option Addr) (c d : Nat) (l : List UInt8) (w : World) (ha : Arg w A (limbs (parseS l).1).length c (limbs (parseS l).1)) (hb : Arg w B (limbs (parseS l).1).length d (limbs (parseS l).1)) :
    Calls Tryz.prog 23 #[.slice A (limbs (parseS l).1).length c, .slice B (limbs (parseS l).1).length d] w fun e w' => e = .returned (.bool true) ∧ Below w.heap.size w w' :=
  (same_any A B _ _ c d _ _ w ha.1 hb.1 (by have := parseS_len l; omega) (by have := parseS_len l; omega)).mono fun e w' ⟨h1, q, h2⟩ => by
    subst h2
    exact ⟨by simpa using h1, below_drewN (Below.refl _ _) q⟩

set_option maxHeartbeats 3200000 in
set_option maxRecDepth 100000 in
theorem texts_any (HAW : Awake) (A : Option Addr) (n c : Nat) (la : List Nat) (s : ByteArray) (hs : s.size ≤ maxLen) (w : World) (ha : Arg w A n c la) (ht : Tab10 w) :
    Calls Tryz.prog 4 #[.slice A n c, .string s] w fun e w' => e = .returned (.bool true) ∧ Below w.heap.size w w' := by
  have HS : Sl _ := ⟨hs⟩
  have hnc := ha.2
  have HA : Sl _ := ⟨ha⟩
  have HT : Sl _ := ⟨ht⟩
  unfold maxLen at hs hnc
  obtain ⟨g1, g2⟩ := hnc
  clear ha ht
  by_cases hin : textsIn n s.size
  · obtain ⟨hi1, hi2⟩ := hin
    have HPW : Sl _ := ⟨fun W : World => wParse_any s W HS.out⟩
    have HPR : Sl _ := ⟨fun W : World => rParse_any s W HS.out⟩
    have HTW : Sl _ := ⟨fun (W : World) (h : Below w.heap.size w W) => Text_any A n c la W (HA.out.below h) (HT.out.below h)⟩
    have HTR : Sl _ := ⟨fun (W : World) (h : Below w.heap.size w W) => rText_any A n c la W (HA.out.below h)⟩
    have u0 : Below w.heap.size w w := Below.refl _ _
    have hsv : sv (textS la).1 = .string ⟨(textS la).1.toArray⟩ := rfl
    rw [hsv] at HTW HTR
    generalize (⟨(textS la).1.toArray⟩ : ByteArray) = tx at *
    generalize (textS la).2 = te at *
    clear hsv
    rcases hi1 with hi1 | ⟨hi1, hi3⟩ <;> rcases hi2 with hi2 | ⟨hi2, hi4⟩
    all_goals (
      go_enter Tryz.func4, Tryz.ntmps4
      go_wp2_with fail
      refine (HTW.out w u0).mono ?_; rintro e w1 ⟨rfl, hb1⟩
      go_wp2_with fail
      refine (HTR.out w1 hb1).mono ?_; rintro e w2 ⟨rfl, hb2⟩
      have u2 := hb1.trans (hb2.mono hb1.size)
      go_wp2_with fail
      refine (HPW.out w2).mono ?_; rintro e w3 ⟨⟨A3, c3, rfl, h3⟩, hb3⟩
      have u3 := u2.trans (hb3.mono u2.size)
      have H3 : Sl _ := ⟨h3⟩
      clear h3
      go_wp2_with fail
      refine (HPR.out w3).mono ?_; rintro e w4 ⟨⟨A4, c4, rfl, h4⟩, hb4⟩
      have u4 := u3.trans (hb4.mono u3.size)
      have HSM : Sl _ := ⟨same_parse A3 A4 c3 c4 s.data.toList w4 (H3.out.below hb4) h4⟩
      clear h4
      go_wp2_with fail
      refine HSM.out.mono ?_; rintro e w5 ⟨rfl, hb5⟩
      have u5 := u4.trans (hb5.mono u4.size)
      go_wp2_with fail
      refine (HAW w5 (HT.out.below u5)).mono ?_; rintro e w6 ⟨rfl, hb6⟩
      go_wp2_with fail
      go_ret
      exact ⟨rfl, u5.trans (hb6.mono u5.size)⟩)
  · have hcs := textsIn_not hin
    clear hin
    rcases hcs with ⟨h1, h2⟩ | h1 | ⟨h1, h2, h3⟩ | ⟨h1, h2⟩ | ⟨h1, h2, h3, h4⟩ | ⟨h1, h2, h3⟩
    all_goals (
      go_enter Tryz.func4, Tryz.ntmps4
      go_wp2_with fail
      refine (HAW w HT.out).mono ?_; rintro e w1 ⟨rfl, hb1⟩
      go_wp2_with fail
      go_ret
      exact ⟨rfl, hb1⟩)
end Go.Proofs.YtgjbaamhpapeeaaGreatDoor
