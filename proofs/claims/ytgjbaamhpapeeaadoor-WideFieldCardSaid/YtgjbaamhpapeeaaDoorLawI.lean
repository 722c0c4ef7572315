/- The laws WideNumbers and WideAdds return true, where awake does. -/
import Derived.Test.YtgjbaamhpapeeaaDoorLawD
namespace Go.Proofs.YtgjbaamhpapeeaaDoor
set_option linter.unusedSimpArgs false
open Go.RowKit
set_option linter.unusedVariables false

/-- what the law's awake gives -/
def Awake : Prop := ∀ w : World, Tab10 w → Calls Tryd.prog 12 #[] w fun e w' => e = .returned (.bool true) ∧ Below w.heap.size w w'

theorem same_self (A B : Option Addr) (c d : Nat) (l : List Nat) (w : World) (ha : U w A l.length l) (hb : U w B l.length l) (hl : l.length ≤ 512) :
    Calls Tryd.prog 17 #[.slice A l.length c, .slice B l.length d] w fun e w' => e = .returned (.bool true) ∧ Below w.heap.size w w' := by
  refine (same_any A B _ _ c d l l w ha hb (by omega) (by omega)).mono ?_
  rintro e w' ⟨rfl, q, rfl⟩
  exact ⟨by simp, below_drewN (Below.refl _ _) q⟩
theorem fitS_len (x : Nat) : (fitS x).1.length ≤ 512 := by
  unfold fitS
  split
  · assumption
  · simp
theorem plusS_len (la lb : List Nat) : (plusS la lb).1.length ≤ 512 := by
  unfold plusS
  split
  · exact fitS_len _
  · simp
theorem timesS_len (la lb : List Nat) : (timesS la lb).1.length ≤ 512 := by
  unfold timesS
  split
  · exact fitS_len _
  · simp
theorem subS_len (la lb : List Nat) : (subS la lb).1.length ≤ 512 := by
  unfold subS
  split
  · split
    · simp
    · exact fitS_len _
  · simp
theorem limbs_len2 {x : Nat} (hx : x < LB * LB) : (limbs x).length ≤ 512 := Nat.le_trans (limbs_len_le (k := 2) (by rw [Nat.pow_succ, Nat.pow_one]; exact hx)) (by decide)

set_option maxHeartbeats 1600000 in
theorem numbers_any (HAW : Awake) (x : Nat) (hx : x < LB * LB) (A : Option Addr) (n c : Nat) (la : List Nat) (w : World) (ha : Arg w A n c la) (ht : Tab10 w) :
    Calls Tryd.prog 5 #[.int .u64 x, .slice A n c] w fun e w' => e = .returned (.bool true) ∧ Below w.heap.size w w' := by
  have HT : Sl _ := ⟨ht⟩
  have HX : Sl _ := ⟨hx⟩
  have HA : Sl _ := ⟨ha⟩
  have hm := ha.2
  unfold maxLen at hm
  obtain ⟨hm1, hm2⟩ := hm
  clear ht hx ha
  by_cases h5 : 520 < n
  · go_enter Tryd.func5, Tryd.ntmps5
    go_wp2_with fail
    refine (HAW w HT.out).mono ?_; rintro e w' ⟨rfl, hb⟩
    go_wp2_with fail
    go_ret
    exact ⟨rfl, hb⟩
  · clear hm1 hm2
    go_enter Tryd.func5, Tryd.ntmps5
    go_wp2_with fail
    refine (wSmall_any A n c la w HA.out).mono ?_; rintro e w1 ⟨rfl, hb1⟩
    go_wp2_with fail
    refine (rSmall_any A n c la w1 (HA.out.below hb1)).mono ?_; rintro e w2 ⟨rfl, hb2⟩
    have u2 := hb1.trans (hb2.mono hb1.size)
    have HA2 : Sl _ := ⟨HA.out.below u2⟩
    clear hb1 hb2
    generalize (smallS la).1 = s1 at *
    generalize (smallS la).2 = s2 at *
    go_wp2_with fail
    refine (Valid_any A n c la w2 HA2.out).mono ?_; rintro e w' ⟨rfl, rfl⟩
    go_wp2_with fail
    refine (rValid_any A n c la w2 HA2.out.1 HA2.out.2.1 HA2.out.2.2).mono ?_; rintro e w' ⟨rfl, rfl⟩
    go_wp2_with fail
    refine (Of_any x w2 HX.out).mono ?_; rintro e w3 ⟨⟨A3, c3, rfl, k1, k2, k3⟩, hb3⟩
    have u3 := u2.trans (hb3.mono u2.size)
    have G3 : Sl _ := ⟨k3⟩
    clear k1 k2 k3 hb3 u2
    go_wp2_with fail
    refine (rOf_any x w3 HX.out).mono ?_; rintro e w4 ⟨⟨A4, c4, rfl, k1, k2, k3⟩, hb4⟩
    have u4 := u3.trans (hb4.mono u3.size)
    have G4 : Sl _ := ⟨k3⟩
    have G34 : Sl _ := ⟨G3.out.below hb4⟩
    clear k1 k2 k3 hb4 u3
    have HL : Sl _ := ⟨limbs_len2 HX.out⟩
    go_wp2_with fail
    refine (same_self A3 A4 c3 c4 (limbs x) w4 G34.out G4.out HL.out).mono ?_; rintro e w5 ⟨rfl, hb5⟩
    have u5 := u4.trans (hb5.mono u4.size)
    clear hb5 u4
    go_wp2_with fail
    refine (HAW w5 (HT.out.below u5)).mono ?_; rintro e w6 ⟨rfl, hb6⟩
    go_wp2_with fail
    go_ret
    exact ⟨rfl, u5.trans (hb6.mono u5.size)⟩
end Go.Proofs.YtgjbaamhpapeeaaDoor
