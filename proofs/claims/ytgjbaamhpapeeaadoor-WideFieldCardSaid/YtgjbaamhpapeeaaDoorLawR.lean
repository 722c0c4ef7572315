/- The reference: power, Pow, Root. -/
import Derived.Test.YtgjbaamhpapeeaaDoorLawK
import Derived.Test.YtgjbaamhpapeeaaDoorNatW
namespace Go.Proofs.YtgjbaamhpapeeaaDoor
open Go.RowKit
set_option linter.unusedVariables false
set_option linter.unusedSimpArgs false

theorem pow_long_of {a i K k : Nat} (hi : i < K) (hK : a ^ K = a ^ k) (h : 512 < (limbs (a ^ (i+1))).length) : ¬ (limbs (a ^ k)).length ≤ 512 := by
  rcases Nat.eq_zero_or_pos a with h0 | h0
  · subst h0
    rw [Nat.zero_pow (Nat.succ_pos i), limbs_zero] at h
    simp at h
  · have := pow_len_mono h0 (show i + 1 ≤ K by omega)
    rw [hK] at this
    omega

set_option maxHeartbeats 1600000 in
set_option maxRecDepth 100000 in
/-- the reference's power -/
theorem rpower_any (A : Option Addr) (n c a k : Nat) (w : World) (ha : Arg w A n c (limbs a)) (hn : n ≤ 1000) (hk : k ≤ 20000) :
    Calls Tryd.prog 69 #[.slice A n c, .int .i64 k] w fun e w' => PowRes (a ^ k) e w' ∧ Below w.heap.size w w' := by
  have HA : Sl _ := ⟨ha⟩
  have HLA : Sl _ := ⟨ha.1.len⟩
  have ho1 := rOf_any 1 w (by decide)
  simp only [Int.natCast_one] at ho1
  have HO1 : Sl _ := ⟨ho1⟩
  have l1 : (limbs 1).length = 1 := by rw [limbs_one (by decide) (by decide)]; rfl
  have L1 : Sl ((limbs 1).length = 1) := ⟨l1⟩
  have hor := fun (W : World) (A1 : Option Addr) (c1 : Nat) (h : U W A n (limbs a)) (h1 : U W A1 (limbs 1).length (limbs 1)) => order_any A A1 n (limbs 1).length c c1 (limbs a) (limbs 1) W h h1 (by omega) (by have := L1.out; omega)
  clear l1
  simp only [valOf_limbs] at hor
  by_cases ha1 : a ≤ 1
  · obtain ⟨K, hK⟩ : ∃ K : Nat, K = min k 1 := ⟨_, rfl⟩
    have hmin : min (k : Int) 1 = (K : Int) := by omega
    have hpk : Sl (a ^ K = a ^ k) := ⟨by rw [hK]; exact (pow_small ha1).symm⟩
    have hK2 : K ≤ 20000 := by omega
    have hc : cmpN a 1 ≤ 0 := by
      unfold cmpN
      by_cases h : a < 1
      · rw [if_pos h]; decide
      · rw [if_neg h, if_neg (by omega)]; decide
    generalize cmpN a 1 = cc at *
    have HOR : Sl _ := ⟨hor⟩
    clear ha hor ho1 ha1 hK
    go_enter Tryd.func69, Tryd.ntmps69
    go_wp2_with fail
    refine HO1.out.mono ?_; rintro e w1 ⟨⟨A1, c1, rfl, k1, k2, k3⟩, hb1⟩
    go_wp2_with fail
    refine (HOR.out w1 A1 c1 (HA.out.1.below hb1) k3).mono ?_; rintro e w' ⟨rfl, rfl⟩
    have HN1 : Sl (NV w1 (.slice A1 (limbs 1).length c1) 1) := ⟨⟨A1, c1, rfl, ⟨k3, k1, k2⟩⟩⟩
    clear k1 k2 k3 HOR HO1
    have HPK : Sl _ := ⟨hpk.out⟩
    clear hpk
    have hK3 : (K : Int) ≤ 20000 := by omega
    go_wp2_with fail
    go_loopw [6, 7] (fun s6 s7 wr => ∃ i : Nat, i ≤ K ∧ s7 = .int .i64 i ∧ Sl (NV wr s6 (a ^ i)) ∧ Sl ((limbs (a ^ i)).length ≤ 512) ∧ Below w.heap.size w wr) (fun _ s7 _ => K - (intOf s7).toNat)
    case atStart => exact ⟨0, Nat.zero_le _, rfl, ⟨by rw [Nat.pow_zero]; exact HN1.out⟩, ⟨by rw [Nat.pow_zero, L1.out]; decide⟩, hb1⟩
    case round =>
      obtain ⟨i, hi, rfl, ⟨⟨A6, c6, rfl, hx⟩⟩, HL, hB⟩ := hrel
      have HX : Sl _ := ⟨hx⟩
      have hx2 := hx.2
      unfold maxLen at hx2
      obtain ⟨hx3, hx4⟩ := hx2
      clear hx
      by_cases hin : i < K
      · have hti := rtimes_any A6 A (limbs (a ^ i)).length n c6 c (limbs (a ^ i)) (limbs a) wr HX.out.1 (HA.out.1.below hB) (by have := HL.out; omega) (by omega)
        obtain ⟨p, hp⟩ : ∃ p, p = a ^ (i+1) := ⟨_, rfl⟩
        rw [valOf_limbs, valOf_limbs, show a ^ i * a = p by rw [hp, Nat.pow_succ]] at hti
        have HPP : Sl _ := ⟨hp⟩
        have HTI : Sl _ := ⟨hti⟩
        clear hti
        generalize hny : (limbs (a ^ i)).length = ny at *
        clear hny
        by_cases hlen : (limbs p).length ≤ 512
        · have HLN : Sl _ := ⟨hlen⟩
          clear hp
          go_wp2_with fail
          refine HTI.out.mono ?_; rintro e w2 ⟨⟨A2, c2, rfl, g1, g2, g3⟩, hb2⟩
          have HNV : Sl (NV w2 (.slice A2 (limbs p).length c2) p) := ⟨⟨A2, c2, rfl, ⟨g3, g1, g2⟩⟩⟩
          clear g1 g2 g3
          go_wp2_with fail
          exact ⟨⟨i + 1, hin, by go_num, ⟨by rw [← HPP.out]; exact HNV.out⟩, ⟨by rw [← HPP.out]; exact HLN.out⟩, hB.trans (hb2.mono hB.size)⟩, by simp [intOf]; omega⟩
        · have HLN : Sl _ := ⟨pow_long_of hin HPK.out (by rw [← hp]; exact Nat.lt_of_not_le hlen)⟩
          have hlen2 : 512 < (limbs p).length := Nat.lt_of_not_le hlen
          clear hlen hp
          go_wp2_with fail
          refine HTI.out.mono ?_; rintro e w2 ⟨⟨A2, c2, rfl, g1, g2, g3⟩, hb2⟩
          unfold maxLen at g2
          clear g3
          go_wp2_with fail
          go_ret2
          exact ⟨⟨.slice none 0 0, by rw [decide_eq_false HLN.out]; rfl, fun h => absurd h HLN.out⟩, hB.trans (hb2.mono hB.size)⟩
      · obtain rfl : i = K := by omega
        have hL := HL.out
        have hNV : NV wr (.slice A6 (limbs (a ^ i)).length c6) (a ^ i) := ⟨A6, c6, rfl, HX.out⟩
        rw [HPK.out] at hNV hL
        have HN : Sl _ := ⟨hNV⟩
        have HLL : Sl _ := ⟨hL⟩
        clear hNV hL
        rw [HPK.out]
        generalize (limbs (a ^ i)).length = ny at *
        go_wp2_with fail
        go_ret2
        exact ⟨⟨_, by rw [decide_eq_true HLL.out]; rfl, fun _ => HN.out⟩, hB⟩
  · have hcN : 0 < cmpN a 1 := by rw [cmpN_gt (by omega)]; decide
    have hc : decide (cmpN a 1 ≤ 0) = false := by rw [decide_eq_false_iff_not]; omega
    generalize cmpN a 1 = cc at *
    have HOR : Sl _ := ⟨hor⟩
    have hK2 : k ≤ 20000 := hk
    obtain ⟨K, hK⟩ : ∃ K : Nat, K = k := ⟨_, rfl⟩
    have hkK : k = K := hK.symm
    clear ha hor ho1 ha1 hK
    subst hkK
    go_enter Tryd.func69, Tryd.ntmps69
    go_wp2_with fail
    refine HO1.out.mono ?_; rintro e w1 ⟨⟨A1, c1, rfl, k1, k2, k3⟩, hb1⟩
    go_wp2_with fail
    refine (HOR.out w1 A1 c1 (HA.out.1.below hb1) k3).mono ?_; rintro e w' ⟨rfl, rfl⟩
    have HN1 : Sl (NV w1 (.slice A1 (limbs 1).length c1) 1) := ⟨⟨A1, c1, rfl, ⟨k3, k1, k2⟩⟩⟩
    clear k1 k2 k3 HOR HO1
    go_wp2_with fail
    go_loopw [6, 7] (fun s6 s7 wr => ∃ i : Nat, i ≤ k ∧ s7 = .int .i64 i ∧ Sl (NV wr s6 (a ^ i)) ∧ Sl ((limbs (a ^ i)).length ≤ 512) ∧ Below w.heap.size w wr) (fun _ s7 _ => k - (intOf s7).toNat)
    case atStart => exact ⟨0, Nat.zero_le _, rfl, ⟨by rw [Nat.pow_zero]; exact HN1.out⟩, ⟨by rw [Nat.pow_zero, L1.out]; decide⟩, hb1⟩
    case round =>
      obtain ⟨i, hi, rfl, ⟨⟨A6, c6, rfl, hx⟩⟩, HL, hB⟩ := hrel
      have HX : Sl _ := ⟨hx⟩
      have hx2 := hx.2
      unfold maxLen at hx2
      obtain ⟨hx3, hx4⟩ := hx2
      clear hx
      by_cases hin : i < k
      · have hti := rtimes_any A6 A (limbs (a ^ i)).length n c6 c (limbs (a ^ i)) (limbs a) wr HX.out.1 (HA.out.1.below hB) (by have := HL.out; omega) (by omega)
        obtain ⟨p, hp⟩ : ∃ p, p = a ^ (i+1) := ⟨_, rfl⟩
        rw [valOf_limbs, valOf_limbs, show a ^ i * a = p by rw [hp, Nat.pow_succ]] at hti
        have HPP : Sl _ := ⟨hp⟩
        have HTI : Sl _ := ⟨hti⟩
        clear hti
        generalize hny : (limbs (a ^ i)).length = ny at *
        clear hny
        by_cases hlen : (limbs p).length ≤ 512
        · have HLN : Sl _ := ⟨hlen⟩
          clear hp
          go_wp2_with fail
          refine HTI.out.mono ?_; rintro e w2 ⟨⟨A2, c2, rfl, g1, g2, g3⟩, hb2⟩
          have HNV : Sl (NV w2 (.slice A2 (limbs p).length c2) p) := ⟨⟨A2, c2, rfl, ⟨g3, g1, g2⟩⟩⟩
          clear g1 g2 g3
          go_wp2_with fail
          exact ⟨⟨i + 1, hin, by go_num, ⟨by rw [← HPP.out]; exact HNV.out⟩, ⟨by rw [← HPP.out]; exact HLN.out⟩, hB.trans (hb2.mono hB.size)⟩, by simp [intOf]; omega⟩
        · have HLN : Sl _ := ⟨pow_long_of hin rfl (by rw [← hp]; exact Nat.lt_of_not_le hlen)⟩
          have hlen2 : 512 < (limbs p).length := Nat.lt_of_not_le hlen
          clear hlen hp
          go_wp2_with fail
          refine HTI.out.mono ?_; rintro e w2 ⟨⟨A2, c2, rfl, g1, g2, g3⟩, hb2⟩
          unfold maxLen at g2
          clear g3
          go_wp2_with fail
          go_ret2
          exact ⟨⟨.slice none 0 0, by rw [decide_eq_false HLN.out]; rfl, fun h => absurd h HLN.out⟩, hB.trans (hb2.mono hB.size)⟩
      · obtain rfl : i = k := by omega
        have hL := HL.out
        have hNV : NV wr (.slice A6 (limbs (a ^ i)).length c6) (a ^ i) := ⟨A6, c6, rfl, HX.out⟩
        have HN : Sl _ := ⟨hNV⟩
        have HLL : Sl _ := ⟨hL⟩
        clear hNV hL
        go_wp2_with fail
        go_ret2
        exact ⟨⟨_, by rw [decide_eq_true HLL.out]; rfl, fun _ => HN.out⟩, hB⟩
end Go.Proofs.YtgjbaamhpapeeaaDoor
