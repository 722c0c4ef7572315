/- The reference: Common, DivMod, Gcd. -/
import Derived.Test.YtgjbaamhpapeeaaDoorLawN
namespace Go.Proofs.YtgjbaamhpapeeaaDoor
open Go.RowKit
set_option linter.unusedVariables false
set_option linter.unusedSimpArgs false

set_option maxHeartbeats 800000 in
set_option maxRecDepth 100000 in
theorem common_any (A B : Option Addr) (n m c d a b : Nat) (w : World) (ha : Arg w A n c (limbs a)) (hb : Arg w B m d (limbs b)) (hn : n ≤ 16384) (hm : m ≤ 16384) :
    Calls Tryd.prog 63 #[.slice A n c, .slice B m d] w fun e w' => Limbs (limbs (Nat.gcd a b)) e w' ∧ Below w.heap.size w w' := by
  have HA : Sl _ := ⟨ha⟩
  have HB : Sl _ := ⟨hb⟩
  have HLA : Sl ((limbs a).length ≤ 16384) := ⟨by rw [ha.1.len]; exact hn⟩
  have HLB : Sl ((limbs b).length ≤ 16384) := ⟨by rw [hb.1.len]; exact hm⟩
  have h0 : NV w (.slice A n c) a := ha.nv
  have h1 : NV w (.slice B m d) b := hb.nv
  clear ha hb hn hm
  go_enter Tryd.func63, Tryd.ntmps63
  go_wp2
  go_loopw [0, 1] (fun s0 s1 wr => ∃ (x y : Nat), NV wr s0 x ∧ NV wr s1 y ∧ (limbs x).length ≤ 16384 ∧ (limbs y).length ≤ 16384 ∧ Nat.gcd x y = Nat.gcd a b ∧ Below w.heap.size w wr) (fun _ s1 wr => Classical.epsilon (fun z => NV wr s1 z))
  case atStart => exact ⟨a, b, h0, h1, HLA.out, HLB.out, rfl, Below.refl _ _⟩
  case round =>
    obtain ⟨x, y, ⟨A1, c1, rfl, hx⟩, ⟨A2, c2, rfl, hy⟩, hlx, hly, hg, hB⟩ := hrel
    have HX : Sl _ := ⟨hx⟩
    have HY : Sl _ := ⟨hy⟩
    have HG : Sl _ := ⟨hg⟩
    have hc1 := hx.2
    clear hx hy hg
    by_cases hz : y = 0
    · subst hz
      have hl0 : (limbs 0).length = 0 := by rw [limbs_zero]; rfl
      go_wp2_with fail
      go_ret
      have hg := HG.out
      rw [Nat.gcd_zero_right] at hg
      rw [← hg]
      exact ⟨⟨A1, c1, rfl, hc1.1, hc1.2, HX.out.1⟩, hB⟩
    · have hyl : 0 < (limbs y).length := by
        rcases Nat.eq_zero_or_pos (limbs y).length with h | h
        · exact absurd (limbs_nil_iff.1 (List.eq_nil_of_length_eq_zero h)) hz
        · exact h
      have hmod := Nat.mod_lt x (Nat.pos_of_ne_zero hz)
      have hml := limbs_len_mono (Nat.le_of_lt hmod)
      have hnv : NV wr (.slice A2 (limbs y).length c2) y := ⟨A2, c2, rfl, HY.out⟩
      have hep := hnv.eps
      have HE : Sl _ := ⟨hep⟩
      clear hep
      have HN : Sl _ := ⟨hnv⟩
      clear hnv
      generalize hly2 : (limbs y).length = ny at *
      generalize hlx2 : (limbs x).length = nx at *
      go_wp2_with fail
      refine (divide_any A1 A2 _ _ c1 c2 x y _ HX.out.1 HY.out.1 (by omega) (by omega) hz).mono ?_; rintro e w' ⟨⟨Q, cq, R, cr, rfl, hq, hr⟩, hb⟩
      have hnr : NV w' (.slice R (limbs (x % y)).length cr) (x % y) := hr.nv
      clear hq hr
      go_wp2_with fail
      rw [HE.out, hnr.eps]
      refine ⟨⟨y, x % y, HN.out.below hb, hnr, by rw [hly2]; exact hly, by omega, ?_, hB.trans (hb.mono hB.size)⟩, hmod⟩
      rw [← HG.out, Nat.gcd_comm y, ← Nat.gcd_rec, Nat.gcd_comm]

set_option maxHeartbeats 400000 in
theorem rGcd_any (A B : Option Addr) (n m c d : Nat) (la lb : List Nat) (w : World) (ha : Arg w A n c la) (hb : Arg w B m d lb) :
    Calls Tryd.prog 16 #[.slice A n c, .slice B m d] w fun e w' => NatRes (gcdS la lb).1 (gcdS la lb).2 e w' ∧ Below w.heap.size w w' := by
  have hck := rbad2 A B n m c d la lb w 23 ha hb
  have hu : Below w.heap.size w (w.alloc (.cells #[.slice A n c, .slice B m d] 23)) := (Below.refl _ _).alloc (Nat.le_refl _) _
  rcases badE_cases [la, lb] with e | e | e
  · obtain ⟨p1, h1⟩ := ok_one (ha.below hu) (badE_zero.1 e la (by simp))
    obtain ⟨p2, h2⟩ := ok_one (hb.below hu) (badE_zero.1 e lb (by simp))
    have hp := common_any A B n m c d (valOf la) (valOf lb) _ p1 p2 (by omega) (by omega)
    have hl : (limbs (Nat.gcd (valOf la) (valOf lb))).length ≤ 512 := by
      have hla := ha.1.len
      have hlb := hb.1.len
      rcases Nat.eq_zero_or_pos (valOf la) with h0 | h0
      · rw [h0, Nat.gcd_zero_left]
        exact val_len hb.1.2 (by omega) (Nat.le_refl _)
      · exact val_len ha.1.2 (by omega) (Nat.gcd_le_left _ h0)
    have es : gcdS la lb = (limbs (Nat.gcd (valOf la) (valOf lb)), 0) := by
      simp only [gcdS, e, if_true, fitS, if_pos hl]
    rw [es]
    rw [e] at hck
    generalize Nat.gcd (valOf la) (valOf lb) = x at *
    have H : Sl _ := ⟨hck⟩
    have HP : Sl _ := ⟨hp⟩
    clear hck hp es e ha hb h1 h2 p1 p2 hl
    go_enter Tryd.func16, Tryd.ntmps16
    go_wp2_with fail
    refine H.out.mono ?_; rintro e w' ⟨rfl, rfl⟩
    go_wp2_with fail
    refine HP.out.mono ?_; rintro e w' ⟨⟨A1, c1, rfl, k1, k2, k3⟩, hb1⟩
    go_wp2_with fail
    go_ret2
    exact ⟨⟨A1, c1, rfl, k1, k2, k3⟩, hu.trans (hb1.mono hu.size)⟩
  all_goals
    have es : gcdS la lb = ([], badE [la, lb]) := by simp [gcdS, e]
    rw [es, e]
    rw [e] at hck
    have H : Sl _ := ⟨hck⟩
    clear hck es e ha hb
    go_enter Tryd.func16, Tryd.ntmps16
    go_wp2_with fail
    refine H.out.mono ?_; rintro e w' ⟨rfl, rfl⟩
    go_wp2
    go_ret2
    exact ⟨nat_none _ _, hu⟩

set_option maxHeartbeats 400000 in
theorem rDivMod_any (A B : Option Addr) (n m c d : Nat) (la lb : List Nat) (w : World) (ha : Arg w A n c la) (hb : Arg w B m d lb) :
    Calls Tryd.prog 14 #[.slice A n c, .slice B m d] w fun e w' => NatRes2 (divS la lb).1 (divS la lb).2.1 (divS la lb).2.2 e w' ∧ Below w.heap.size w w' := by
  have hck := rbad2 A B n m c d la lb w 23 ha hb
  have hu : Below w.heap.size w (w.alloc (.cells #[.slice A n c, .slice B m d] 23)) := (Below.refl _ _).alloc (Nat.le_refl _) _
  rcases badE_cases [la, lb] with e | e | e
  · obtain ⟨p1, h1⟩ := ok_one (ha.below hu) (badE_zero.1 e la (by simp))
    obtain ⟨p2, h2⟩ := ok_one (hb.below hu) (badE_zero.1 e lb (by simp))
    rw [e] at hck
    have H : Sl _ := ⟨hck⟩
    have hml := p2.1.len
    rcases Nat.eq_zero_or_pos m with h0 | h0
    · have hv : valOf lb = 0 := by
        rw [h0] at hml
        exact limbs_nil_iff.1 (List.eq_nil_of_length_eq_zero hml)
      have es : divS la lb = ([], [], 4) := by simp [divS, e, hv]
      rw [es]
      subst h0
      clear hck es e ha hb h1 h2 p1 p2 hml hv
      go_enter Tryd.func14, Tryd.ntmps14
      go_wp2_with fail
      refine H.out.mono ?_; rintro e w' ⟨rfl, rfl⟩
      go_wp2
      go_ret3
      exact ⟨nat_none2 _ _, hu⟩
    · have hv : valOf lb ≠ 0 := by
        intro hv
        rw [hv, limbs_zero] at hml
        simp at hml
        omega
      have hp := divide_any A B n m c d (valOf la) (valOf lb) _ p1.1 p2.1 (by omega) (by omega) hv
      have es : divS la lb = (limbs (valOf la / valOf lb), limbs (valOf la % valOf lb), 0) := by simp [divS, e, hv]
      rw [es]
      generalize valOf la / valOf lb = x at *
      generalize valOf la % valOf lb = y at *
      have HP : Sl _ := ⟨hp⟩
      have g0 : ((m : Int) == 0) = false := by rw [beq_eq_false_iff_ne]; omega
      clear hck hp es e ha hb h1 h2 p1 p2 hml hv
      go_enter Tryd.func14, Tryd.ntmps14
      go_wp2_with fail
      refine H.out.mono ?_; rintro e w' ⟨rfl, rfl⟩
      go_wp2_with fail
      refine HP.out.mono ?_; rintro e w' ⟨⟨Q, cq, R, cr, rfl, hq, hr⟩, hb1⟩
      go_wp2_with fail
      go_ret3
      exact ⟨⟨Q, cq, R, cr, rfl, hq, hr⟩, hu.trans (hb1.mono hu.size)⟩
  all_goals
    have es : divS la lb = ([], [], badE [la, lb]) := by simp [divS, e]
    rw [es, e]
    rw [e] at hck
    have H : Sl _ := ⟨hck⟩
    clear hck es e ha hb
    go_enter Tryd.func14, Tryd.ntmps14
    go_wp2_with fail
    refine H.out.mono ?_; rintro e w' ⟨rfl, rfl⟩
    go_wp2
    go_ret3
    exact ⟨nat_none2 _ _, hu⟩
end Go.Proofs.YtgjbaamhpapeeaaDoor
