/- Package wide, sixth part: Shift. -/
import Derived.Test.YtcmofoggdchofaaDoorWideE
namespace Go.Proofs.YtcmofoggdchofaaDoor
set_option linter.unusedSimpArgs false
open Go.RowKit
set_option linter.unusedVariables false

def shiftS (la : List Nat) (n : Int) : List Nat × Int :=
  if badE [la] = 0 then (if n < -20000 ∨ 20000 < n then ([], 2) else if n < 0 then fitS (valOf la / 2 ^ (-n).toNat) else fitS (valOf la * 2 ^ n.toNat)) else ([], badE [la])

set_option maxHeartbeats 400000 in
theorem Shift_bad (A : Option Addr) (n c : Nat) (la : List Nat) (k : Int) (w : World) (ha : Arg w A n c la) (hb : badE [la] ≠ 0) :
    Calls Tryd.prog 86 #[.slice A n c, .int .i64 k] w fun e w' => NatRes [] (badE [la]) e w' ∧ Below w.heap.size w w' := by
  have hck := check1 A n c la w 68 ha
  have hu : Below w.heap.size w (w.alloc (.cells #[.slice A n c] 68)) := (Below.refl _ _).alloc (Nat.le_refl _) _
  rcases badE_cases [la] with e | e | e
  · exact absurd e hb
  all_goals
    rw [e] at hck ⊢
    have H : Sl _ := ⟨hck⟩
    clear hck e ha hb
    go_enter Tryd.func86, Tryd.ntmps86
    go_wp2_with fail
    refine H.out.mono ?_; rintro e w' ⟨rfl, rfl⟩
    go_wp2
    go_ret2
    exact ⟨⟨none, 0, rfl, by simp, by decide, U_nil _ _⟩, hu⟩
set_option maxHeartbeats 400000 in
theorem Shift_arg (A : Option Addr) (n c : Nat) (la : List Nat) (k : Int) (w : World) (ha : Arg w A n c la) (hb : badE [la] = 0) (hk : k < -20000 ∨ 20000 < k) :
    Calls Tryd.prog 86 #[.slice A n c, .int .i64 k] w fun e w' => NatRes [] 2 e w' ∧ Below w.heap.size w w' := by
  have hck := check1 A n c la w 68 ha
  have hu : Below w.heap.size w (w.alloc (.cells #[.slice A n c] 68)) := (Below.refl _ _).alloc (Nat.le_refl _) _
  rw [hb] at hck
  have H : Sl _ := ⟨hck⟩
  clear hck ha hb
  rcases hk with hk | hk
  · go_enter Tryd.func86, Tryd.ntmps86
    go_wp2_with fail
    refine H.out.mono ?_; rintro e w' ⟨rfl, rfl⟩
    go_wp2
    go_ret2
    exact ⟨⟨none, 0, rfl, by simp, by decide, U_nil _ _⟩, hu⟩
  · have hk2 : decide (k < -20000) = false := by simp; omega
    go_enter Tryd.func86, Tryd.ntmps86
    go_wp2_with fail
    refine H.out.mono ?_; rintro e w' ⟨rfl, rfl⟩
    go_wp2
    go_ret2
    exact ⟨⟨none, 0, rfl, by simp, by decide, U_nil _ _⟩, hu⟩
set_option maxHeartbeats 400000 in
theorem Shift_down (A : Option Addr) (n c : Nat) (la : List Nat) (k : Nat) (w : World) (ha : Arg w A n c la) (hb : badE [la] = 0) (hk : k ≤ 20000) (hk0 : 0 < k) :
    Calls Tryd.prog 86 #[.slice A n c, .int .i64 (-(k : Int))] w fun e w' => NatRes (fitS (valOf la / 2 ^ k)).1 (fitS (valOf la / 2 ^ k)).2 e w' ∧ Below w.heap.size w w' := by
  have hck := check1 A n c la w 68 ha
  have hu : Below w.heap.size w (w.alloc (.cells #[.slice A n c] 68)) := (Below.refl _ _).alloc (Nat.le_refl _) _
  rw [hb] at hck
  have hz := badE_zero.1 hb
  have ea := (validL_iff ha.1.2).1 (hz la (by simp))
  have ha2 := (ha.below hu).1
  have hna := ha2.len
  rw [ea.1] at ha2
  have hp := down_any A n c (valOf la) k _ ha2 (by omega) hk
  generalize valOf la / 2 ^ k = x at *
  have H : Sl _ := ⟨hck⟩
  have HP : Sl _ := ⟨hp⟩
  clear hck hp hb hz ea ha2 hna ha
  have h1 : decide (-(k : Int) < -20000) = false := by simp; omega
  have h2 : decide (20000 < -(k : Int)) = false := by rw [decide_eq_false_iff_not]; omega
  have h3 : -(k : Int) < 0 := by omega
  go_enter Tryd.func86, Tryd.ntmps86
  go_wp2_with fail
  refine H.out.mono ?_; rintro e w' ⟨rfl, rfl⟩
  go_wp2_with fail
  refine HP.out.mono ?_; rintro e w' ⟨⟨A', c', rfl, h1, h2, h3⟩, hb⟩
  go_wp2_with fail
  refine (result_any _ _ _ x _ h3).mono ?_; rintro e w2 ⟨⟨A2, c2, rfl, k1, k2, k3⟩, hb2⟩
  go_wp2
  go_ret2
  exact ⟨⟨A2, c2, rfl, k1, k2, k3⟩, (hu.trans (hb.mono (by simp))).trans (hb2.mono (by have := hb.size; simp at this; omega))⟩
set_option maxHeartbeats 400000 in
theorem Shift_up (A : Option Addr) (n c : Nat) (la : List Nat) (k : Nat) (w : World) (ha : Arg w A n c la) (hb : badE [la] = 0) (hk : k ≤ 20000) :
    Calls Tryd.prog 86 #[.slice A n c, .int .i64 k] w fun e w' => NatRes (fitS (valOf la * 2 ^ k)).1 (fitS (valOf la * 2 ^ k)).2 e w' ∧ Below w.heap.size w w' := by
  have hck := check1 A n c la w 68 ha
  have hu : Below w.heap.size w (w.alloc (.cells #[.slice A n c] 68)) := (Below.refl _ _).alloc (Nat.le_refl _) _
  rw [hb] at hck
  have hz := badE_zero.1 hb
  have ea := (validL_iff ha.1.2).1 (hz la (by simp))
  have ha2 := (ha.below hu).1
  have hna := ha2.len
  rw [ea.1] at ha2
  have hp := up_all A n c (valOf la) k _ ha2 (by omega) hk
  generalize valOf la * 2 ^ k = x at *
  have H : Sl _ := ⟨hck⟩
  have HP : Sl _ := ⟨hp⟩
  clear hck hp hb hz ea ha2 hna ha
  have h1 : decide ((k : Int) < -20000) = false := by rw [decide_eq_false_iff_not]; omega
  have h2 : decide (20000 < (k : Int)) = false := by rw [decide_eq_false_iff_not]; omega
  have h3 : decide ((k : Int) < 0) = false := by simp
  go_enter Tryd.func86, Tryd.ntmps86
  go_wp2_with fail
  refine H.out.mono ?_; rintro e w' ⟨rfl, rfl⟩
  go_wp2_with fail
  refine HP.out.mono ?_; rintro e w' ⟨⟨A', c', rfl, h1, h2, h3⟩, hb⟩
  go_wp2_with fail
  refine (result_any _ _ _ x _ h3).mono ?_; rintro e w2 ⟨⟨A2, c2, rfl, k1, k2, k3⟩, hb2⟩
  go_wp2
  go_ret2
  exact ⟨⟨A2, c2, rfl, k1, k2, k3⟩, (hu.trans (hb.mono (by simp))).trans (hb2.mono (by have := hb.size; simp at this; omega))⟩
theorem Shift_any (A : Option Addr) (n c : Nat) (la : List Nat) (k : Int) (w : World) (ha : Arg w A n c la) :
    Calls Tryd.prog 86 #[.slice A n c, .int .i64 k] w fun e w' => NatRes (shiftS la k).1 (shiftS la k).2 e w' ∧ Below w.heap.size w w' := by
  by_cases hb : badE [la] = 0
  · by_cases hk : k < -20000 ∨ 20000 < k
    · have e : shiftS la k = ([], 2) := by simp [shiftS, hb, hk]
      rw [e]; exact Shift_arg A n c la k w ha hb hk
    · by_cases h0 : k < 0
      · obtain ⟨j, hj⟩ : ∃ j : Nat, k = -(j : Int) := ⟨(-k).toNat, by omega⟩
        subst hj
        have e : shiftS la (-(j : Int)) = fitS (valOf la / 2 ^ j) := by
          simp only [shiftS, hb, if_true, if_neg hk, if_pos h0]
          rw [Int.neg_neg, Int.toNat_natCast]
        rw [e]; exact Shift_down A n c la j w ha hb (by omega) (by omega)
      · obtain ⟨j, rfl⟩ := Int.eq_ofNat_of_zero_le (show 0 ≤ k by omega)
        have e : shiftS la (j : Int) = fitS (valOf la * 2 ^ j) := by
          simp only [shiftS, hb, if_true, if_neg hk, if_neg h0, Int.toNat_natCast]
        rw [e]; exact Shift_up A n c la j w ha hb (by omega)
  · have e : shiftS la k = ([], badE [la]) := by simp [shiftS, hb]
    rw [e]; exact Shift_bad A n c la k w ha hb
end Go.Proofs.YtcmofoggdchofaaDoor
