/- Package wide: the public functions DivMod, Gcd, Pow, Root, Text, Bits, Sub, Valid. -/
import Derived.Test.YtgjbaamhpapeeaaGreatDoorWideM
namespace Go.Proofs.YtgjbaamhpapeeaaGreatDoor
set_option linter.unusedSimpArgs false
open Go.RowKit Go.Lib
set_option linter.unusedVariables false

theorem ok_one {A : Option Addr} {n c : Nat} {la : List Nat} {w : World} (h : Arg w A n c la) (hv : validL la = true) : Arg w A n c (limbs (valOf la)) ∧ n ≤ 512 := by
  have e := (validL_iff h.1.2).1 hv
  have hl := h.1.len
  refine ⟨?_, by omega⟩
  rw [← e.1]; exact h
theorem ok1 {A : Option Addr} {n c : Nat} {la : List Nat} {w : World} (h : Arg w A n c la) (hb : badE [la] = 0) : Arg w A n c (limbs (valOf la)) ∧ n ≤ 512 := ok_one h (badE_zero.1 hb la (by simp))
theorem ok2 {A B : Option Addr} {n c m d : Nat} {la lb : List Nat} {w : World} (h : Arg w A n c la) (g : Arg w B m d lb) (hb : badE [la, lb] = 0) :
    (Arg w A n c (limbs (valOf la)) ∧ n ≤ 512) ∧ (Arg w B m d (limbs (valOf lb)) ∧ m ≤ 512) := ⟨ok_one h (badE_zero.1 hb la (by simp)), ok_one g (badE_zero.1 hb lb (by simp))⟩
theorem nat_none (er : Int) (w : World) : NatRes [] er (.returned (.tuple #[.slice none 0 0, .int .i64 er])) w := ⟨none, 0, rfl, by simp, by decide, U_nil _ _⟩

/-- Text -/
def textS (la : List Nat) : List UInt8 × Int := if badE [la] = 0 then (decDigits (valOf la), 0) else ([], badE [la])
set_option maxHeartbeats 400000 in
theorem Text_any (A : Option Addr) (n c : Nat) (la : List Nat) (w : World) (ha : Arg w A n c la) (ht : Tab10 w) :
    Calls Tryz.prog 24 #[.slice A n c] w fun e w' => e = .returned (.tuple #[sv (textS la).1, .int .i64 (textS la).2]) ∧ Below w.heap.size w w' := by
  have hck := check1 A n c la w 23 ha
  have hu : Below w.heap.size w (w.alloc (.cells #[.slice A n c] 23)) := (Below.refl _ _).alloc (Nat.le_refl _) _
  rcases badE_cases [la] with e | e | e
  · have es : textS la = (decDigits (valOf la), 0) := by simp [textS, e]
    obtain ⟨h1, h2⟩ := ok1 (ha.below hu) e
    have hp := text_any A n c (valOf la) _ h1 (by omega) (ht.below hu)
    rw [es]
    rw [e] at hck
    generalize decDigits (valOf la) = x at *
    have H : Sl _ := ⟨hck⟩
    have HP : Sl _ := ⟨hp⟩
    clear hck hp es e ha h1 h2 ht
    go_enter Tryz.func24, Tryz.ntmps24
    go_wp2_with fail
    refine H.out.mono ?_; rintro e w' ⟨rfl, rfl⟩
    go_wp2_with fail
    refine HP.out.mono ?_; rintro e w' ⟨rfl, hb⟩
    go_wp2_with fail
    go_ret2
    exact ⟨rfl, hu.trans (hb.mono hu.size)⟩
  all_goals
    have es : textS la = ([], badE [la]) := by simp [textS, e]
    rw [es, e]
    rw [e] at hck
    have H : Sl _ := ⟨hck⟩
    clear hck es e ha ht
    go_enter Tryz.func24, Tryz.ntmps24
    go_wp2_with fail
    refine H.out.mono ?_; rintro e w' ⟨rfl, rfl⟩
    go_wp2
    go_ret2
    exact ⟨rfl, hu⟩

/-- Bits -/
def bitsS (la : List Nat) : Nat × Int := if badE [la] = 0 then (bitsN (valOf la), 0) else (0, badE [la])
/-- Gcd -/
def gcdS (la lb : List Nat) : List Nat × Int := if badE [la, lb] = 0 then fitS (Nat.gcd (valOf la) (valOf lb)) else ([], badE [la, lb])
set_option maxHeartbeats 400000 in
theorem Gcd_any (A B : Option Addr) (n m c d : Nat) (la lb : List Nat) (w : World) (ha : Arg w A n c la) (hb : Arg w B m d lb) :
    Calls Tryz.prog 29 #[.slice A n c, .slice B m d] w fun e w' => NatRes (gcdS la lb).1 (gcdS la lb).2 e w' ∧ Below w.heap.size w w' := by
  have hck := check2 A B n m c d la lb w 23 ha hb
  have hu : Below w.heap.size w (w.alloc (.cells #[.slice A n c, .slice B m d] 23)) := (Below.refl _ _).alloc (Nat.le_refl _) _
  rcases badE_cases [la, lb] with e | e | e
  · have es : gcdS la lb = fitS (Nat.gcd (valOf la) (valOf lb)) := by simp [gcdS, e]
    obtain ⟨⟨h1, h2⟩, ⟨h3, h4⟩⟩ := ok2 (ha.below hu) (hb.below hu) e
    have hp := gcd_any A B n m c d (valOf la) (valOf lb) _ h1 h3 (by omega) (by omega)
    rw [es]
    rw [e] at hck
    generalize Nat.gcd (valOf la) (valOf lb) = x at *
    have H : Sl _ := ⟨hck⟩
    have HP : Sl _ := ⟨hp⟩
    clear hck hp es e ha h1 h2 h3 h4 hb
    go_enter Tryz.func29, Tryz.ntmps29
    go_wp2_with fail
    refine H.out.mono ?_; rintro e w' ⟨rfl, rfl⟩
    go_wp2_with fail
    refine HP.out.mono ?_; rintro e w' ⟨⟨A', c', rfl, h1, h2, h3⟩, hb⟩
    go_wp2_with fail
    refine (result_any _ _ _ x _ h3).mono ?_; rintro e w2 ⟨⟨A2, c2, rfl, k1, k2, k3⟩, hb2⟩
    go_wp2
    go_ret2
    exact ⟨⟨A2, c2, rfl, k1, k2, k3⟩, (hu.trans (hb.mono (by simp))).trans (hb2.mono (by have := hb.size; simp at this; omega))⟩
  all_goals
    have es : gcdS la lb = ([], badE [la, lb]) := by simp [gcdS, e]
    rw [es, e]
    rw [e] at hck
    have H : Sl _ := ⟨hck⟩
    clear hck es e ha hb
    go_enter Tryz.func29, Tryz.ntmps29
    go_wp2_with fail
    refine H.out.mono ?_; rintro e w' ⟨rfl, rfl⟩
    go_wp2
    go_ret2
    exact ⟨nat_none _ _, hu⟩

/-- Sub -/
def subS (la lb : List Nat) : List Nat × Int := if badE [la, lb] = 0 then (if valOf la < valOf lb then ([], 7) else fitS (valOf la - valOf lb)) else ([], badE [la, lb])
/-- DivMod -/
def divS (la lb : List Nat) : List Nat × List Nat × Int := if badE [la, lb] = 0 then (if valOf lb = 0 then ([], [], 4) else (limbs (valOf la / valOf lb), limbs (valOf la % valOf lb), 0)) else ([], [], badE [la, lb])
/-- three results: limbs, limbs, and an error -/
def NatRes2 (l k : List Nat) (er : Int) (e : Ending) (w : World) : Prop := ∃ A c B d, e = .returned (.tuple #[.slice A l.length c, .slice B k.length d, .int .i64 er]) ∧ Arg w A l.length c l ∧ Arg w B k.length d k
theorem nat_none2 (er : Int) (w : World) : NatRes2 [] [] er (.returned (.tuple #[.slice none 0 0, .slice none 0 0, .int .i64 er])) w := ⟨none, 0, none, 0, rfl, ⟨U_nil _ _, by simp, by decide⟩, ⟨U_nil _ _, by simp, by decide⟩⟩
set_option maxHeartbeats 400000 in
theorem DivMod_any (A B : Option Addr) (n m c d : Nat) (la lb : List Nat) (w : World) (ha : Arg w A n c la) (hb : Arg w B m d lb) :
    Calls Tryz.prog 30 #[.slice A n c, .slice B m d] w fun e w' => NatRes2 (divS la lb).1 (divS la lb).2.1 (divS la lb).2.2 e w' ∧ Below w.heap.size w w' := by
  have hck := check2 A B n m c d la lb w 23 ha hb
  have hu : Below w.heap.size w (w.alloc (.cells #[.slice A n c, .slice B m d] 23)) := (Below.refl _ _).alloc (Nat.le_refl _) _
  rcases badE_cases [la, lb] with e | e | e
  · obtain ⟨⟨h1, h2⟩, ⟨h3, h4⟩⟩ := ok2 (ha.below hu) (hb.below hu) e
    rw [e] at hck
    by_cases hz : valOf lb = 0
    · have es : divS la lb = ([], [], 4) := by simp [divS, e, hz]
      rw [es]
      have hm : m = 0 := by have k := h3.1.len; rw [hz, limbs_zero] at k; simpa using k.symm
      subst hm
      have H : Sl _ := ⟨hck⟩
      clear hck es e ha h1 h2 h3 h4 hb hz
      go_enter Tryz.func30, Tryz.ntmps30
      go_wp2_with fail
      refine H.out.mono ?_; rintro e w' ⟨rfl, rfl⟩
      go_wp2
      go_ret3
      exact ⟨nat_none2 _ _, hu⟩
    · have es : divS la lb = (limbs (valOf la / valOf lb), limbs (valOf la % valOf lb), 0) := by simp [divS, e, hz]
      rw [es]
      have hm : 0 < m := by
        have k := h3.1.len
        rcases Nat.eq_zero_or_pos m with h | h
        · rw [h] at k; exact absurd (limbs_nil_iff.1 (List.eq_nil_of_length_eq_zero k)) hz
        · exact h
      have hm2 : ((m : Int) == 0) = false := by rw [beq_eq_false_iff_ne]; omega
      have hp := div_any A B n m c d (valOf la) (valOf lb) _ h1.1 h3.1 (by omega) (by omega) hz
      generalize valOf la / valOf lb = x at *
      generalize valOf la % valOf lb = y at *
      have H : Sl _ := ⟨hck⟩
      have HP : Sl _ := ⟨hp⟩
      clear hck hp es e ha h1 h2 h3 h4 hb hz
      go_enter Tryz.func30, Tryz.ntmps30
      go_wp2_with fail
      refine H.out.mono ?_; rintro e w' ⟨rfl, rfl⟩
      go_wp2_with fail
      refine HP.out.mono ?_; rintro e w' ⟨⟨A', c', B', d', rfl, h1, h2⟩, hb⟩
      go_wp2
      go_ret3
      exact ⟨⟨A', c', B', d', rfl, h1, h2⟩, hu.trans (hb.mono hu.size)⟩
  all_goals
    have es : divS la lb = ([], [], badE [la, lb]) := by simp [divS, e]
    rw [es, e]
    rw [e] at hck
    have H : Sl _ := ⟨hck⟩
    clear hck es e ha hb
    go_enter Tryz.func30, Tryz.ntmps30
    go_wp2_with fail
    refine H.out.mono ?_; rintro e w' ⟨rfl, rfl⟩
    go_wp2
    go_ret3
    exact ⟨nat_none2 _ _, hu⟩

/-- Pow -/
def powS (la : List Nat) (k : Int) : List Nat × Int := if badE [la] = 0 then (if k < 0 ∨ 20000 < k then ([], 2) else fitS (valOf la ^ k.toNat)) else ([], badE [la])
/-- Root -/
def rootOk (la : List Nat) (k : Int) : Prop := badE [la] = 0 ∧ 1 ≤ k ∧ k ≤ 64
def RootS (la : List Nat) (k : Int) (l : List Nat) (er : Int) : Prop := (badE [la] = 0 ∧ 1 ≤ k ∧ k ≤ 64 ∧ ∃ x, IsRoot k.toNat (valOf la) x ∧ l = (fitS x).1 ∧ er = (fitS x).2) ∨ (badE [la] = 0 ∧ (k < 1 ∨ 64 < k) ∧ l = [] ∧ er = 2) ∨ (badE [la] ≠ 0 ∧ l = [] ∧ er = badE [la])
set_option maxHeartbeats 400000 in
theorem Root_any (A : Option Addr) (n c : Nat) (la : List Nat) (k : Int) (w : World) (ha : Arg w A n c la) :
    Calls Tryz.prog 34 #[.slice A n c, .int .i64 k] w fun e w' => (∃ l er, RootS la k l er ∧ NatRes l er e w') ∧ Below w.heap.size w w' := by
  have hck := check1 A n c la w 23 ha
  have hu : Below w.heap.size w (w.alloc (.cells #[.slice A n c] 23)) := (Below.refl _ _).alloc (Nat.le_refl _) _
  rcases badE_cases [la] with e | e | e
  · by_cases hk : k < 1 ∨ 64 < k
    · have es : RootS la k [] 2 := .inr (.inl ⟨e, hk, rfl, rfl⟩)
      rw [e] at hck
      have H : Sl _ := ⟨hck⟩
      have HE : Sl _ := ⟨es⟩
      clear hck es e ha
      go_enter Tryz.func34, Tryz.ntmps34
      by_cases hk1 : k < 1
      · go_wp2_with fail
        refine H.out.mono ?_; rintro e w' ⟨rfl, rfl⟩
        go_wp2
        go_ret2
        exact ⟨⟨_, _, HE.out, nat_none _ _⟩, hu⟩
      · have hk2 : decide (k < 1) = false := by simpa using hk1
        have hk3 : decide (64 < k) = true := by simp; omega
        go_wp2_with fail
        refine H.out.mono ?_; rintro e w' ⟨rfl, rfl⟩
        go_wp2
        go_ret2
        exact ⟨⟨_, _, HE.out, nat_none _ _⟩, hu⟩
    · obtain ⟨j, rfl⟩ := Int.eq_ofNat_of_zero_le (show 0 ≤ k by omega)
      have es : ∀ x, IsRoot j (valOf la) x → RootS la j (fitS x).1 (fitS x).2 := fun x hx => .inl ⟨e, by omega, by omega, x, by rwa [Int.toNat_natCast], rfl, rfl⟩
      obtain ⟨h1, h2⟩ := ok1 (ha.below hu) e
      have hp := root_any A n c (valOf la) j _ h1 h2 (by omega) (by omega)
      rw [e] at hck
      have H : Sl _ := ⟨hck⟩
      have HE : Sl _ := ⟨es⟩
      have HP : Sl _ := ⟨hp⟩
      have k1 : decide ((j : Int) < 1) = false := by rw [decide_eq_false_iff_not]; omega
      have k2 : decide (64 < (j : Int)) = false := by rw [decide_eq_false_iff_not]; omega
      clear hck es e ha hp h1 h2
      go_enter Tryz.func34, Tryz.ntmps34
      go_wp2_with fail
      refine H.out.mono ?_; rintro e w' ⟨rfl, rfl⟩
      go_wp2_with fail
      refine HP.out.mono ?_; rintro e w' ⟨⟨x, hx, A', c', rfl, h1, h2, h3⟩, hb⟩
      have hes := HE.out x hx
      have HES : Sl _ := ⟨hes⟩
      clear hes hx
      go_wp2_with fail
      refine (result_any _ _ _ x _ h3).mono ?_; rintro e w2 ⟨⟨A2, c2, rfl, k1, k2, k3⟩, hb2⟩
      go_wp2
      go_ret2
      have hb3 := hu.trans (hb.mono hu.size)
      exact ⟨⟨_, _, HES.out, A2, c2, rfl, k1, k2, k3⟩, hb3.trans (hb2.mono hb3.size)⟩
  all_goals
    have es : RootS la k [] (badE [la]) := .inr (.inr ⟨by rw [e]; decide, rfl, rfl⟩)
    rw [e] at hck es
    have H : Sl _ := ⟨hck⟩
    have HE : Sl _ := ⟨es⟩
    clear hck es e ha
    go_enter Tryz.func34, Tryz.ntmps34
    go_wp2_with fail
    refine H.out.mono ?_; rintro e w' ⟨rfl, rfl⟩
    go_wp2
    go_ret2
    exact ⟨⟨_, _, HE.out, nat_none _ _⟩, hu⟩
end Go.Proofs.YtgjbaamhpapeeaaGreatDoor
