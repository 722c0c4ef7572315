/- The reference: Add, Sub, Mul, Small; package wide: Small, Valid. -/
import Derived.Test.YtgjbaamhpapeeaaDoorLawF
namespace Go.Proofs.YtgjbaamhpapeeaaDoor
set_option linter.unusedSimpArgs false
open Go.RowKit
set_option linter.unusedVariables false

set_option maxHeartbeats 400000 in
theorem rAdd_any (A B : Option Addr) (n m c d : Nat) (la lb : List Nat) (w : World) (ha : Arg w A n c la) (hb : Arg w B m d lb) :
    Calls Tryd.prog 36 #[.slice A n c, .slice B m d] w fun e w' => NatRes (plusS la lb).1 (plusS la lb).2 e w' ∧ Below w.heap.size w w' := by
  have hck := rbad2 A B n m c d la lb w 23 ha hb
  have hu : Below w.heap.size w (w.alloc (.cells #[.slice A n c, .slice B m d] 23)) := (Below.refl _ _).alloc (Nat.le_refl _) _
  rcases badE_cases [la, lb] with e | e | e
  · have h1 := (ok_one (ha.below hu) (badE_zero.1 e la (by simp))).2
    have h2 := (ok_one (hb.below hu) (badE_zero.1 e lb (by simp))).2
    have hp := rplus_any A B n m c d la lb _ (ha.below hu).1 (hb.below hu).1 (by omega) (by omega)
    have es : plusS la lb = fitS (valOf la + valOf lb) := by simp [plusS, e]
    rw [es]
    rw [e] at hck
    generalize valOf la + valOf lb = x at *
    have H : Sl _ := ⟨hck⟩
    have HP : Sl _ := ⟨hp⟩
    clear hck hp es e ha hb h1 h2
    go_enter Tryd.func36, Tryd.ntmps36
    go_wp2_with fail
    refine H.out.mono ?_; rintro e w' ⟨rfl, rfl⟩
    go_wp2_with fail
    refine HP.out.mono ?_; rintro e w' ⟨⟨A1, c1, rfl, k1, k2, k3⟩, hb1⟩
    go_wp2_with fail
    refine (fit_any A1 _ c1 x _ ⟨k3, k1, k2⟩).mono ?_; rintro e w' ⟨⟨A2, c2, rfl, g1, g2, g3⟩, rfl⟩
    go_wp2_with fail
    go_ret2
    exact ⟨⟨A2, c2, rfl, g1, g2, g3⟩, hu.trans (hb1.mono hu.size)⟩
  all_goals
    have es : plusS la lb = ([], badE [la, lb]) := by simp [plusS, e]
    rw [es, e]
    rw [e] at hck
    have H : Sl _ := ⟨hck⟩
    clear hck es e ha hb
    go_enter Tryd.func36, Tryd.ntmps36
    go_wp2_with fail
    refine H.out.mono ?_; rintro e w' ⟨rfl, rfl⟩
    go_wp2
    go_ret2
    exact ⟨nat_none _ _, hu⟩
set_option maxHeartbeats 400000 in
theorem rMul_any (A B : Option Addr) (n m c d : Nat) (la lb : List Nat) (w : World) (ha : Arg w A n c la) (hb : Arg w B m d lb) :
    Calls Tryd.prog 40 #[.slice A n c, .slice B m d] w fun e w' => NatRes (timesS la lb).1 (timesS la lb).2 e w' ∧ Below w.heap.size w w' := by
  have hck := rbad2 A B n m c d la lb w 23 ha hb
  have hu : Below w.heap.size w (w.alloc (.cells #[.slice A n c, .slice B m d] 23)) := (Below.refl _ _).alloc (Nat.le_refl _) _
  rcases badE_cases [la, lb] with e | e | e
  · have h1 := (ok_one (ha.below hu) (badE_zero.1 e la (by simp))).2
    have h2 := (ok_one (hb.below hu) (badE_zero.1 e lb (by simp))).2
    have hp := rtimes_any A B n m c d la lb _ (ha.below hu).1 (hb.below hu).1 (by omega) (by omega)
    have es : timesS la lb = fitS (valOf la * valOf lb) := by simp [timesS, e]
    rw [es]
    rw [e] at hck
    generalize valOf la * valOf lb = x at *
    have H : Sl _ := ⟨hck⟩
    have HP : Sl _ := ⟨hp⟩
    clear hck hp es e ha hb h1 h2
    go_enter Tryd.func40, Tryd.ntmps40
    go_wp2_with fail
    refine H.out.mono ?_; rintro e w' ⟨rfl, rfl⟩
    go_wp2_with fail
    refine HP.out.mono ?_; rintro e w' ⟨⟨A1, c1, rfl, k1, k2, k3⟩, hb1⟩
    go_wp2_with fail
    refine (fit_any A1 _ c1 x _ ⟨k3, k1, k2⟩).mono ?_; rintro e w' ⟨⟨A2, c2, rfl, g1, g2, g3⟩, rfl⟩
    go_wp2_with fail
    go_ret2
    exact ⟨⟨A2, c2, rfl, g1, g2, g3⟩, hu.trans (hb1.mono hu.size)⟩
  all_goals
    have es : timesS la lb = ([], badE [la, lb]) := by simp [timesS, e]
    rw [es, e]
    rw [e] at hck
    have H : Sl _ := ⟨hck⟩
    clear hck es e ha hb
    go_enter Tryd.func40, Tryd.ntmps40
    go_wp2_with fail
    refine H.out.mono ?_; rintro e w' ⟨rfl, rfl⟩
    go_wp2
    go_ret2
    exact ⟨nat_none _ _, hu⟩
theorem val_len {l : List Nat} (hl : ∀ x ∈ l, x < LB) (h5 : l.length ≤ 512) {x : Nat} (hx : x ≤ valOf l) : (limbs x).length ≤ 512 := by
  have h1 := valOf_lt l hl
  exact Nat.le_trans (limbs_len_le (Nat.lt_of_le_of_lt hx h1)) h5
set_option maxHeartbeats 400000 in
theorem rSub_any (A B : Option Addr) (n m c d : Nat) (la lb : List Nat) (w : World) (ha : Arg w A n c la) (hb : Arg w B m d lb) :
    Calls Tryd.prog 38 #[.slice A n c, .slice B m d] w fun e w' => NatRes (subS la lb).1 (subS la lb).2 e w' ∧ Below w.heap.size w w' := by
  have hck := rbad2 A B n m c d la lb w 23 ha hb
  have hu : Below w.heap.size w (w.alloc (.cells #[.slice A n c, .slice B m d] 23)) := (Below.refl _ _).alloc (Nat.le_refl _) _
  rcases badE_cases [la, lb] with e | e | e
  · have h1 := (ok_one (ha.below hu) (badE_zero.1 e la (by simp))).2
    have h2 := (ok_one (hb.below hu) (badE_zero.1 e lb (by simp))).2
    have ho := order_any A B n m c d la lb _ (ha.below hu).1 (hb.below hu).1 (by omega) (by omega)
    rw [e] at hck
    have H : Sl _ := ⟨hck⟩
    by_cases hlt : valOf la < valOf lb
    · have es : subS la lb = ([], 7) := by simp [subS, e, hlt]
      rw [es]
      rw [cmpN_lt hlt] at ho
      have HO : Sl _ := ⟨ho⟩
      clear hck ho es e ha hb h1 h2 hlt
      go_enter Tryd.func38, Tryd.ntmps38
      go_wp2_with fail
      refine H.out.mono ?_; rintro e w' ⟨rfl, rfl⟩
      go_wp2_with fail
      refine HO.out.mono ?_; rintro e w' ⟨rfl, rfl⟩
      go_wp2_with fail
      go_ret2
      exact ⟨nat_none _ _, hu⟩
    · have hp := rminus_any A B n m c d la lb _ (ha.below hu).1 (hb.below hu).1 (by omega) (by omega) (by omega)
      have hfit : (limbs (valOf la - valOf lb)).length ≤ 512 := val_len ha.1.2 (by rw [ha.1.len]; exact h1) (Nat.sub_le _ _)
      have es : subS la lb = (limbs (valOf la - valOf lb), 0) := by simp [subS, e, hlt, fitS, hfit]
      have hc : 0 ≤ cmpN (valOf la) (valOf lb) := by unfold cmpN; rw [if_neg hlt]; split <;> decide
      rw [es]
      generalize cmpN (valOf la) (valOf lb) = cc at *
      generalize valOf la - valOf lb = x at *
      have HO : Sl _ := ⟨ho⟩
      have HP : Sl _ := ⟨hp⟩
      have hcd : decide (cc < 0) = false := by simp; omega
      clear hck ho hp es e ha hb h1 h2 hlt hfit
      go_enter Tryd.func38, Tryd.ntmps38
      go_wp2_with fail
      refine H.out.mono ?_; rintro e w' ⟨rfl, rfl⟩
      go_wp2_with fail
      refine HO.out.mono ?_; rintro e w' ⟨rfl, rfl⟩
      go_wp2_with fail
      refine HP.out.mono ?_; rintro e w' ⟨⟨A1, c1, rfl, k1, k2, k3⟩, hb1⟩
      go_wp2_with fail
      go_ret2
      exact ⟨⟨A1, c1, rfl, k1, k2, k3⟩, hu.trans (hb1.mono hu.size)⟩
  all_goals
    have es : subS la lb = ([], badE [la, lb]) := by simp [subS, e]
    rw [es, e]
    rw [e] at hck
    have H : Sl _ := ⟨hck⟩
    clear hck es e ha hb
    go_enter Tryd.func38, Tryd.ntmps38
    go_wp2_with fail
    refine H.out.mono ?_; rintro e w' ⟨rfl, rfl⟩
    go_wp2
    go_ret2
    exact ⟨nat_none _ _, hu⟩
end Go.Proofs.YtgjbaamhpapeeaaDoor
