/- Package ratios, first part: numbers as package ratios computes with them. -/
import Derived.Test.YtalodfjplegibaaGreatDoorWideF
namespace Go.Proofs.YtalodfjplegibaaGreatDoor
set_option linter.unusedSimpArgs false
open Go.RowKit
set_option linter.unusedVariables false

/-- a number that fits, else 0 -/
def sat (x : Nat) : Nat := if (limbs x).length ≤ 512 then x else 0
/-- the value v is the number a -/
def Num (w : World) (v : Value) (a : Nat) : Prop := ∃ A n c, v = .slice A n c ∧ Arg w A n c (limbs a) ∧ (limbs a).length ≤ 512
/-- the number a is returned -/
def RetNum (a : Nat) (e : Ending) (w : World) : Prop := ∃ v, e = .returned v ∧ Num w v a
theorem Num.below {w w' : World} {v : Value} {a : Nat} (h : Num w v a) (hb : Below w.heap.size w w') : Num w' v a := by
  obtain ⟨A, n, c, e, h1, h2⟩ := h
  exact ⟨A, n, c, e, h1.below hb, h2⟩
theorem Num.drewN {w : World} {v : Value} {a : Nat} (h : Num w v a) (k : Nat) : Num (w.drewN k) v a := by
  obtain ⟨A, n, c, e, h1, h2⟩ := h
  exact ⟨A, n, c, e, h1.drewN k, h2⟩
theorem badE_two {a b : Nat} (ha : (limbs a).length ≤ 512) (hb : (limbs b).length ≤ 512) : badE [limbs a, limbs b] = 0 :=
  badE_zero.2 (fun l hl => by
    simp at hl
    rcases hl with rfl | rfl
    · exact validL_limbs ha
    · exact validL_limbs hb)
theorem badE_one {a : Nat} (ha : (limbs a).length ≤ 512) : badE [limbs a] = 0 :=
  badE_zero.2 (fun l hl => by simp at hl; subst hl; exact validL_limbs ha)
theorem NatRes.num {x : Nat} {e : Ending} {w : World} (h : NatRes (fitS x).1 (fitS x).2 e w) : ∃ v er, e = .returned (.tuple #[v, .int .i64 er]) ∧ Num w v (sat x) := by
  obtain ⟨A, c, rfl, h1, h2, h3⟩ := h
  unfold fitS at *
  by_cases hx : (limbs x).length ≤ 512
  · rw [if_pos hx] at *
    refine ⟨_, _, rfl, A, _, c, rfl, ⟨?_, h1, h2⟩, ?_⟩
    · simpa [sat, hx] using h3
    · simp [sat, hx]
  · rw [if_neg hx] at *
    refine ⟨_, _, rfl, A, _, c, rfl, ⟨?_, h1, h2⟩, ?_⟩
    · simpa [sat, hx, limbs_zero] using h3
    · simp [sat, hx, limbs_zero]
theorem Limbs.num {x : Nat} {e : Ending} {w : World} (h : Limbs (limbs x) e w) (hx : (limbs x).length ≤ 512) : RetNum x e w := by
  obtain ⟨A, c, rfl, h1, h2, h3⟩ := h
  exact ⟨_, rfl, A, _, c, rfl, ⟨h3, h1, h2⟩, hx⟩
theorem limbs_small {x : Nat} (h : x < LB * LB) : (limbs x).length ≤ 512 := by
  have : (limbs x).length ≤ 2 := limbs_len_le (by rw [Nat.pow_two]; exact h)
  omega

theorem WAdd (x y : Value) (a b : Nat) (w : World) (hx : Num w x a) (hy : Num w y b) :
    Calls Tryz.prog 105 #[x, y] w fun e w' => (∃ v er, e = .returned (.tuple #[v, .int .i64 er]) ∧ Num w' v (sat (a + b))) ∧ Below w.heap.size w w' := by
  obtain ⟨A, n, c, rfl, ha, ha5⟩ := hx
  obtain ⟨B, m, d, rfl, hb, hb5⟩ := hy
  refine (Add_any A B n m c d _ _ w ha hb).mono fun e w' ⟨h1, h2⟩ => ⟨?_, h2⟩
  rw [show plusS (limbs a) (limbs b) = fitS (a + b) by simp [plusS, badE_two ha5 hb5, valOf_limbs]] at h1
  exact h1.num
theorem WMul (x y : Value) (a b : Nat) (w : World) (hx : Num w x a) (hy : Num w y b) :
    Calls Tryz.prog 106 #[x, y] w fun e w' => (∃ v er, e = .returned (.tuple #[v, .int .i64 er]) ∧ Num w' v (sat (a * b))) ∧ Below w.heap.size w w' := by
  obtain ⟨A, n, c, rfl, ha, ha5⟩ := hx
  obtain ⟨B, m, d, rfl, hb, hb5⟩ := hy
  refine (Mul_any A B n m c d _ _ w ha hb).mono fun e w' ⟨h1, h2⟩ => ⟨?_, h2⟩
  rw [show timesS (limbs a) (limbs b) = fitS (a * b) by simp [timesS, badE_two ha5 hb5, valOf_limbs]] at h1
  exact h1.num
theorem WCmp (x y : Value) (a b : Nat) (w : World) (hx : Num w x a) (hy : Num w y b) :
    Calls Tryz.prog 81 #[x, y] w fun e w' => e = .returned (.tuple #[.int .i64 (cmpN a b), .int .i64 0]) ∧ Below w.heap.size w w' := by
  obtain ⟨A, n, c, rfl, ha, ha5⟩ := hx
  obtain ⟨B, m, d, rfl, hb, hb5⟩ := hy
  refine (Cmp_any A B n m c d _ _ w ha hb).mono fun e w' ⟨h1, h2⟩ => ⟨?_, h2⟩
  rw [show cmpS (limbs a) (limbs b) = (cmpN a b, 0) by simp [cmpS, badE_two ha5 hb5, valOf_limbs]] at h1
  exact h1
/-- a number times 2^n, rounded down -/
def shN (a : Nat) (n : Int) : Nat := if n < 0 then a / 2 ^ (-n).toNat else a * 2 ^ n.toNat
theorem WShift (x : Value) (a : Nat) (n : Int) (w : World) (hx : Num w x a) (hn : -20000 ≤ n) (hn2 : n ≤ 20000) :
    Calls Tryz.prog 120 #[x, .int .i64 n] w fun e w' => (∃ v er, e = .returned (.tuple #[v, .int .i64 er]) ∧ Num w' v (sat (shN a n))) ∧ Below w.heap.size w w' := by
  obtain ⟨A, m, c, rfl, ha, ha5⟩ := hx
  refine (Shift_any A m c _ n w ha).mono fun e w' ⟨h1, h2⟩ => ⟨?_, h2⟩
  rw [show shiftS (limbs a) n = fitS (shN a n) by
    have h0 : ¬ (n < -20000 ∨ 20000 < n) := by omega
    simp only [shiftS, badE_one ha5, if_true, if_neg h0, valOf_limbs, shN]
    split <;> rfl] at h1
  exact h1.num

theorem number_any (x : Nat) (w : World) (hx : (x : Int) ≤ 9223372036854775807) :
    Calls Tryz.prog 80 #[.int .i64 x] w fun e w' => RetNum x e w' ∧ Below w.heap.size w w' := by
  have hl : x < LB * LB := by unfold LB; omega
  have H : Sl _ := ⟨Of_any x w hl⟩
  have HL : Sl _ := ⟨hl⟩
  clear hl
  go_enter Tryz.func80, Tryz.ntmps80
  go_wp2_with fail
  refine H.out.mono ?_; rintro e w' ⟨h1, hb⟩
  obtain ⟨v, rfl, hv⟩ := h1.num (limbs_small HL.out)
  go_wp2
  go_ret
  exact ⟨⟨v, rfl, hv⟩, hb⟩
theorem add_any (x y : Value) (a b : Nat) (w : World) (hx : Num w x a) (hy : Num w y b) :
    Calls Tryz.prog 78 #[x, y] w fun e w' => RetNum (sat (a + b)) e w' ∧ Below w.heap.size w w' := by
  have H : Sl _ := ⟨WAdd x y a b w hx hy⟩
  clear hx hy
  go_enter Tryz.func78, Tryz.ntmps78
  go_wp2_with fail
  refine H.out.mono ?_; rintro e w' ⟨⟨v, er, rfl, hv⟩, hb⟩
  go_wp2
  go_ret
  exact ⟨⟨v, rfl, hv⟩, hb⟩
theorem mul_any (x y : Value) (a b : Nat) (w : World) (hx : Num w x a) (hy : Num w y b) :
    Calls Tryz.prog 79 #[x, y] w fun e w' => RetNum (sat (a * b)) e w' ∧ Below w.heap.size w w' := by
  have H : Sl _ := ⟨WMul x y a b w hx hy⟩
  clear hx hy
  go_enter Tryz.func79, Tryz.ntmps79
  go_wp2_with fail
  refine H.out.mono ?_; rintro e w' ⟨⟨v, er, rfl, hv⟩, hb⟩
  go_wp2
  go_ret
  exact ⟨⟨v, rfl, hv⟩, hb⟩
theorem above_any (x y : Value) (a b : Nat) (w : World) (hx : Num w x a) (hy : Num w y b) :
    Calls Tryz.prog 58 #[x, y] w fun e w' => e = .returned (.bool (decide (b < a))) ∧ Below w.heap.size w w' := by
  have H : Sl _ := ⟨WCmp x y a b w hx hy⟩
  have e : decide (0 < cmpN a b) = decide (b < a) := by unfold cmpN; split <;> (try split) <;> simp <;> omega
  have E : Sl _ := ⟨e⟩
  clear hx hy e
  go_enter Tryz.func58, Tryz.ntmps58
  go_wp2_with fail
  refine H.out.mono ?_; rintro e w' ⟨rfl, hb⟩
  go_wp2
  go_ret
  exact ⟨by rw [← E.out]; rfl, hb⟩
/-- what moved returns -/
def movN (a : Nat) (n : Int) (up : Bool) : Nat :=
  let c := sat (shN a n)
  if up && decide (sat (shN c (-n)) < a) then sat (c + 1) else c
theorem moved_any (x : Value) (a : Nat) (n : Int) (up : Bool) (w : World) (hx : Num w x a) (hn : -20000 ≤ n) (hn2 : n ≤ 20000) :
    Calls Tryz.prog 104 #[x, .int .i64 n, .bool up] w fun e w' => RetNum (movN a n up) e w' ∧ Below w.heap.size w w' := by
  have H : Sl _ := ⟨WShift x a n w hx hn hn2⟩
  have HX : Sl _ := ⟨hx⟩
  have HM : Sl (∀ up, movN a n up = if up && decide (sat (shN (sat (shN a n)) (-n)) < a) then sat (sat (shN a n) + 1) else sat (shN a n)) := ⟨fun _ => rfl⟩
  clear hx
  go_enter Tryz.func104, Tryz.ntmps104
  go_wp2_with fail
  refine H.out.mono ?_; rintro e w1 ⟨⟨v, er, rfl, hv⟩, hb⟩
  clear H
  go_wp2_with fail
  refine (WShift v _ (-n) _ hv (by omega) (by omega)).mono ?_; rintro e w2 ⟨⟨u, er2, rfl, hu⟩, hb2⟩
  have hb3 := hb.trans (hb2.mono hb.size)
  have HX2 : Sl _ := ⟨HX.out.below hb3⟩
  cases up
  · go_wp2
    go_ret
    refine ⟨⟨v, rfl, ?_⟩, hb3⟩
    rw [HM.out]
    simpa using hv.below hb2
  · go_wp2_with fail
    refine (above_any x u a _ _ HX2.out hu).mono ?_; rintro e w3 ⟨rfl, hb4⟩
    by_cases hc : sat (shN (sat (shN a n)) (-n)) < a
    · have hd : decide (sat (shN (sat (shN a n)) (-n)) < a) = true := by simp [hc]
      rw [hd]
      have HD : Sl _ := ⟨hd⟩
      clear hd hc
      have hv2 := (hv.below hb2).below hb4
      have hb5 := hb3.trans (hb4.mono hb3.size)
      go_wp2_with fail
      refine (number_any 1 _ (by decide)).mono ?_; rintro e w4 ⟨⟨o, rfl, ho⟩, hb6⟩
      go_wp2_with fail
      refine (add_any v o _ 1 _ (hv2.below hb6) ho).mono ?_; rintro e w5 ⟨⟨t, rfl, ht⟩, hb7⟩
      go_wp2
      go_ret
      have hb8 := hb5.trans (hb6.mono hb5.size)
      refine ⟨⟨t, rfl, ?_⟩, hb8.trans (hb7.mono hb8.size)⟩
      rw [HM.out, HD.out]; exact ht
    · have hd : decide (sat (shN (sat (shN a n)) (-n)) < a) = false := by simp [hc]
      rw [hd]
      have HD : Sl _ := ⟨hd⟩
      clear hd hc
      go_wp2
      go_ret
      refine ⟨⟨v, rfl, ?_⟩, hb3.trans (hb4.mono hb3.size)⟩
      rw [HM.out, HD.out]
      simpa using (hv.below hb2).below hb4
end Go.Proofs.YtalodfjplegibaaGreatDoor
