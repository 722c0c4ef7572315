/- Package ratios: the sign of a product of powers of six primes. -/
import Derived.Test.YtalodfjplegibaaGreatDoorRatG
import Derived.Test.YtalodfjplegibaaGreatDoorMixS
namespace Go.Proofs.YtalodfjplegibaaGreatDoor
set_option linter.unusedSimpArgs false
open Go.RowKit
set_option linter.unusedVariables false

set_option maxHeartbeats 6400000 in
set_option maxRecDepth 100000 in
theorem sign_of (l : List (Nat × Int)) (p0 : Nat) (h : SgOK l p0) : SignTo l (sgn l) := by
  intro A n c w hl
  have hn : n ≤ 17 := by rw [← hl.1]; exact h.len
  have HG : Sl _ := ⟨guess_any A n c l w hl (by omega) h.good⟩
  have HL : Sl _ := ⟨hl⟩
  have HK : Sl _ := ⟨h⟩
  clear hl h
  cases hgf : guessF l with
  | some s =>
    have e := HK.out.quick _ hgf
    rw [hgf] at HG
    rw [← e]
    clear hgf e
    go_enter Tryz.func35, Tryz.ntmps35
    go_wp2_with fail
    refine HG.out.mono ?_; rintro e w1 ⟨rfl, hb⟩
    go_wp2_with fail
    go_ret
    exact ⟨rfl, hb⟩
  | none =>
    rw [hgf] at HG
    clear hgf
    have HO : Sl (∀ W : World, TR W A n l → Calls Tryz.prog 39 #[.slice A n c] W fun e w' => e = .returned (.bool (decide (up l = down l))) ∧ Below W.heap.size W w') := ⟨fun W hT => one_any A n c l W hT HK.out.okE⟩
    by_cases hone : up l = down l
    · rw [sgn_one hone]
      rw [decide_eq_true hone] at HO
      clear hone
      go_enter Tryz.func35, Tryz.ntmps35
      go_wp2_with fail
      refine HG.out.mono ?_; rintro e w1 ⟨rfl, hb⟩
      have hT1 := HL.out.below hb
      go_wp2_with fail
      refine (HO.out w1 hT1).mono ?_; rintro e w2 ⟨rfl, hb2⟩
      go_wp2_with fail
      go_ret
      exact ⟨rfl, hb.trans (hb2.mono hb.size)⟩
    · rw [decide_eq_false hone] at HO
      have HNE : Sl _ := ⟨hone⟩
      clear hone
      go_enter Tryz.func35, Tryz.ntmps35
      go_wp2_with fail
      refine HG.out.mono ?_; rintro e w1 ⟨rfl, hb⟩
      have hT1 := HL.out.below hb
      go_wp2_with fail
      refine (HO.out w1 hT1).mono ?_; rintro e w2 ⟨rfl, hb2⟩
      have HB : Sl _ := ⟨hb.trans (hb2.mono hb.size)⟩
      clear hT1 hb hb2 HO HG
      go_wp2_with fail
      go_loopg [5] 4 (fun g s5 wr => ∃ P : Nat, s5 = .int .i64 P ∧ Sl (Below w.heap.size w wr ∧ ((g = 4 ∧ P = 64) ∨ (g = 3 ∧ P = 128) ∨ (g = 2 ∧ P = 256) ∨ (g = 1 ∧ P = 512)) ∧ P ≤ p0))
      case atStart => exact ⟨64, rfl, ⟨HB.out, .inl ⟨rfl, rfl⟩, by have := HK.out.p4; omega⟩⟩
      case round =>
        clear HB
        obtain ⟨P, rfl, HP⟩ := hrel
        have hP : P ≤ 512 := by have := HP.out.2; omega
        have hP0 : 64 ≤ P := by have := HP.out.2; omega
        have hSM := sums_any A n c P l (fun n => lg n P) wr (HL.out.below HP.out.1) hn (by omega) (HK.out.logs P (by omega))
        have HSM : Sl _ := ⟨hSM⟩
        clear hSM
        go_wp2_with fail
        refine HSM.out.mono ?_; rintro e w3 ⟨⟨v1, v2, v3, v4, rfl, n1, n2, n3, n4⟩, hb3⟩
        obtain ⟨⟨⟨a1, a2⟩, b1, b2⟩, hgg⟩ : ∃ g, sumB (fun n => lg n P) l = g := ⟨_, rfl⟩
        rw [hgg] at n1 n2 n3 n4
        simp only [] at n1 n2 n3 n4
        have HGG : Sl _ := ⟨hgg⟩
        clear hgg
        obtain ⟨A1, m1, k1, rfl⟩ := n1.slice
        obtain ⟨A2, m2, k2, rfl⟩ := n2.slice
        obtain ⟨A3, m3, k3, rfl⟩ := n3.slice
        obtain ⟨A4, m4, k4, rfl⟩ := n4.slice
        have hB3 := HP.out.1.trans (hb3.mono HP.out.1.size)
        clear HSM hb3
        have U0 := (Blk.new w3 95 #[.slice A1 m1 k1, .slice A2 m2 k2]).alloc (.cells #[.slice A3 m3 k3, .slice A4 m4 k4] 95)
        have D0 := Blk.new (w3.alloc (.cells #[.slice A1 m1 k1, .slice A2 m2 k2] 95)) 95 #[.slice A3 m3 k3, .slice A4 m4 k4]
        rw [show (w3.alloc (.cells #[.slice A1 m1 k1, .slice A2 m2 k2] 95)).heap.size = w3.heap.size + 1 by simp] at D0
        have hal := ((Below.refl w3.heap.size w3).alloc (Nat.le_refl _) (.cells #[.slice A1 m1 k1, .slice A2 m2 k2] 95)).alloc (by simp) (.cells #[.slice A3 m3 k3, .slice A4 m4 k4] 95)
        have HW : Sl _ := ⟨And.intro U0 (And.intro D0 (And.intro hal (And.intro (n1.below hal) (And.intro (n2.below hal) (And.intro (n3.below hal) (And.intro (n4.below hal) (hB3.trans (hal.mono hB3.size))))))))⟩
        clear U0 D0 hal n1 n2 n3 n4 hB3
        go_wp2_with fail
        generalize (w3.alloc (.cells #[.slice A1 m1 k1, .slice A2 m2 k2] 95)).alloc (.cells #[.slice A3 m3 k3, .slice A4 m4 k4] 95) = w4 at *
        refine (above_any (.slice A1 m1 k1) (.slice A4 m4 k4) a1 b2 w4 HW.out.2.2.2.1 HW.out.2.2.2.2.2.2.1).mono ?_; rintro e w5 ⟨rfl, hb5⟩
        have U5 := HW.out.1.below hb5 HW.out.1.lt
        have D5 := HW.out.2.1.below hb5 HW.out.2.1.lt
        have u0 := U5.cell 0
        have u1 := U5.cell 1
        have d0 := D5.cell 0
        have d1 := D5.cell 1
        simp at u0 u1 d0 d1
        have hB5 := HW.out.2.2.2.2.2.2.2.trans (hb5.mono HW.out.2.2.2.2.2.2.2.size)
        have n3 := HW.out.2.2.2.2.2.1.below hb5
        have n2 := HW.out.2.2.2.2.1.below hb5
        have HW5 : Sl _ := ⟨And.intro hB5 (And.intro n3 n2)⟩
        clear U5 D5 hB5 n3 n2 hb5 HW
        by_cases h1 : b2 < a1
        · have hsg : Sl (1 = sgn l) := ⟨HK.out.sound P _ hP0 (by rw [HGG.out]; exact guessG_up h1)⟩
          rw [decide_eq_true h1]
          clear h1
          go_wp2_with fail
          go_ret
          exact ⟨by rw [← hsg.out]; rfl, HW5.out.1⟩
        · rw [decide_eq_false h1]
          go_wp2_with fail
          refine (above_any (.slice A3 m3 k3) (.slice A2 m2 k2) b1 a2 w5 HW5.out.2.1 HW5.out.2.2).mono ?_; rintro e w6 ⟨rfl, hb6⟩
          have hB6 := HW5.out.1.trans (hb6.mono HW5.out.1.size)
          have HB6 : Sl _ := ⟨hB6⟩
          clear hB6 hb6
          by_cases h2 : a2 < b1
          · have hsg : Sl (-1 = sgn l) := ⟨HK.out.sound P _ hP0 (by rw [HGG.out]; exact guessG_down h1 h2)⟩
            rw [decide_eq_true h2]
            clear h1 h2
            go_wp2_with fail
            go_ret
            exact ⟨by rw [← hsg.out]; rfl, HB6.out⟩
          · have hnone : guessG (sumB (fun n => lg n P) l) = none := by rw [HGG.out]; unfold guessG; rw [if_neg h1, if_neg h2]
            have hlt : P < p0 := by
              rcases Nat.lt_or_ge P p0 with h | h
              · exact h
              · exfalso
                have e5 : P = p0 := by have := HP.out.2.2; omega
                rw [e5] at hnone
                exact HNE.out (HK.out.end_ hnone)
            rw [decide_eq_false h2]
            clear h1 h2 hnone
            go_wp2_with fail
            go_roundg (gk - 1)
            case measure => have := HP.out.2; have := HK.out.p4; omega
            case rel => exact ⟨P * 2, by go_num, ⟨HB6.out, by have := HP.out.2; have := HK.out.p4; omega, by have := HP.out.2; have := HK.out.p4; omega⟩⟩
theorem sign_any (l : List (Nat × Int)) (h : ok6 l) : SignTo l (sgn l) := sign_of l 512 h.sg
end Go.Proofs.YtalodfjplegibaaGreatDoor
