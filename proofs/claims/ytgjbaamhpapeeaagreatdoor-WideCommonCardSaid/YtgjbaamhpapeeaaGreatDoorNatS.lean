/- Plain facts for the reference: bits of limbs; division bit by bit; shifts bit by bit. No program in sight. -/
import Derived.Test.YtgjbaamhpapeeaaGreatDoorNatR
namespace Go.Proofs.YtgjbaamhpapeeaaGreatDoor
set_option linter.unusedSimpArgs false
set_option linter.unusedVariables false
theorem lim_val {l : List Nat} (h : ∀ x ∈ l, x < LB) (j : Nat) : lim l j = valOf l / LB ^ j % LB := by
  induction l generalizing j with
  | nil => simp [lim, valOf]
  | cons x t ih =>
    have hx := h x (List.mem_cons_self ..)
    have ht : ∀ y ∈ t, y < LB := fun y hy => h y (List.mem_cons_of_mem _ hy)
    cases j with
    | zero => simp only [Nat.pow_zero, Nat.div_one]; show x = (x + LB * valOf t) % LB; rw [valOf_cons_mod _ _ hx]
    | succ j =>
      show lim t j = (x + LB * valOf t) / LB ^ (j+1) % LB
      rw [ih ht, Nat.pow_succ, Nat.mul_comm (LB ^ j), ← Nat.div_div_eq_div_mul, valOf_cons_div _ _ hx]
theorem lb_split {r : Nat} (h : r ≤ 32) : LB = 2 ^ r * 2 ^ (32 - r) := by rw [LB_two, ← Nat.pow_add]; congr 1; omega
/-- a bit of limbs is a bit of the number -/
theorem lim_bit {l : List Nat} (h : ∀ x ∈ l, x < LB) (i : Nat) : lim l (i / 32) / 2 ^ (i % 32) % 2 = valOf l / 2 ^ i % 2 := by
  have hr : i % 32 < 32 := Nat.mod_lt _ (by decide)
  have e : 2 ^ i = LB ^ (i / 32) * 2 ^ (i % 32) := by rw [LB_pow, ← Nat.pow_add]; congr 1; omega
  rw [lim_val h, e, ← Nat.div_div_eq_div_mul]
  generalize valOf l / LB ^ (i / 32) = v
  rw [lb_split (r := i % 32) (by omega), Nat.mod_mul_right_div_self]
  refine Nat.mod_mod_of_dvd _ ?_
  obtain ⟨k, hk⟩ : ∃ k, 32 - i % 32 = k + 1 := ⟨31 - i % 32, by omega⟩
  rw [hk, Nat.pow_succ]
  exact Nat.dvd_mul_left _ _
theorem half_pow (A i : Nat) : A / 2 ^ i = 2 * (A / 2 ^ (i+1)) + A / 2 ^ i % 2 := by
  have : A / 2 ^ (i+1) = A / 2 ^ i / 2 := by rw [Nat.pow_succ, Nat.div_div_eq_div_mul]
  rw [this]; omega
theorem dbl_step {V T x i y : Nat} (h : V + x * LB ^ i = 2 * T + y) (a : Nat) :
    (V + LB ^ i * ((2 * a) % LB + x)) + (a / 2147483648) * LB ^ (i+1) = 2 * (T + LB ^ i * a) + y := by
  have e : 2 * a % LB + LB * (a / 2147483648) = 2 * a := by unfold LB; omega
  generalize 2 * a % LB = m at *
  generalize a / 2147483648 = d at *
  have e1 : d * LB ^ (i+1) = LB ^ i * (LB * d) := by rw [Nat.pow_succ, Nat.mul_comm, Nat.mul_assoc]
  have e2 : LB ^ i * (m + LB * d) = LB ^ i * (2 * a) := by rw [e]
  rw [Nat.mul_add] at e2
  rw [e1, Nat.mul_add, Nat.mul_add, Nat.mul_comm (LB ^ i) x]
  have e3 : LB ^ i * (2 * a) = 2 * (LB ^ i * a) := by rw [Nat.mul_left_comm]
  omega
/-- a limb gets a bit, above which alone the number has bits -/
theorem or_high {l : List Nat} (h : ∀ x ∈ l, x < LB) {Q i : Nat} (hv : valOf l = Q * 2 ^ (i+1)) (hi : i / 32 < l.length) :
    valOf (l.set (i / 32) (lim l (i / 32) ||| 2 ^ (i % 32))) = (2 * Q + 1) * 2 ^ i ∧ lim l (i / 32) ||| 2 ^ (i % 32) < LB := by
  have hr : i % 32 < 32 := Nat.mod_lt _ (by decide)
  have hd : 2 ^ (i % 32 + 1) ∣ lim l (i / 32) := by
    rw [lim_val h, hv]
    refine (Nat.dvd_mod_iff ?_).2 ?_
    · rw [LB_two]; exact Nat.pow_dvd_pow 2 (by omega)
    · have e : 2 ^ (i+1) = LB ^ (i / 32) * 2 ^ (i % 32 + 1) := by rw [LB_pow, ← Nat.pow_add]; congr 1; omega
      rw [e, ← Nat.mul_assoc, Nat.mul_right_comm, Nat.mul_div_cancel _ (Nat.pow_pos LB_pos)]
      exact Nat.dvd_mul_left _ _
  have ho : lim l (i / 32) ||| 2 ^ (i % 32) = 2 ^ (i % 32) + lim l (i / 32) := by
    rw [Nat.or_comm]
    exact or_add (i % 32 + 1) _ _ (Nat.pow_lt_pow_right (by decide) (by omega)) hd
  have hlt : lim l (i / 32) ||| 2 ^ (i % 32) < LB := by
    rw [LB_two]
    refine Nat.or_lt_two_pow ?_ (Nat.pow_lt_pow_right (by decide) (by omega))
    rw [← LB_two]; exact lim_lt h _
  refine ⟨?_, hlt⟩
  have hs := valOf_set l (i / 32) (lim l (i / 32) ||| 2 ^ (i % 32)) hi
  rw [ho] at hs ⊢
  have e : 2 ^ i = LB ^ (i / 32) * 2 ^ (i % 32) := by rw [LB_pow, ← Nat.pow_add]; congr 1; omega
  have e2 : (2 * Q + 1) * 2 ^ i = valOf l + LB ^ (i / 32) * 2 ^ (i % 32) := by
    rw [hv, Nat.add_mul, Nat.one_mul, e, Nat.pow_succ, e]
    congr 1
    rw [Nat.mul_comm 2 Q, Nat.mul_assoc, Nat.mul_comm 2]
  rw [e2]
  rw [Nat.mul_add] at hs
  unfold lim at hs ⊢
  omega
/-- a limb gets a bit, below which alone the number has bits -/
theorem or_low {l : List Nat} (h : ∀ x ∈ l, x < LB) {i b : Nat} (hv : valOf l < 2 ^ i) (hb : b ≤ 1) (hi : i / 32 < l.length) :
    valOf (l.set (i / 32) (lim l (i / 32) ||| b * 2 ^ (i % 32))) = valOf l + b * 2 ^ i ∧ lim l (i / 32) ||| b * 2 ^ (i % 32) < LB := by
  have hr : i % 32 < 32 := Nat.mod_lt _ (by decide)
  have e : 2 ^ i = LB ^ (i / 32) * 2 ^ (i % 32) := by rw [LB_pow, ← Nat.pow_add]; congr 1; omega
  have hlow : lim l (i / 32) < 2 ^ (i % 32) := by
    rw [lim_val h]
    refine Nat.lt_of_le_of_lt (Nat.mod_le _ _) (Nat.div_lt_of_lt_mul ?_)
    rw [← e]; exact hv
  have ho : lim l (i / 32) ||| b * 2 ^ (i % 32) = lim l (i / 32) + b * 2 ^ (i % 32) := or_add (i % 32) _ _ hlow (Nat.dvd_mul_left _ _)
  have hlt : lim l (i / 32) ||| b * 2 ^ (i % 32) < LB := by
    have h1 : b * 2 ^ (i % 32) ≤ 2 ^ (i % 32) := by
      have := Nat.mul_le_mul_right (2 ^ (i % 32)) hb
      simpa using this
    rw [LB_two]
    refine Nat.or_lt_two_pow ?_ (Nat.lt_of_le_of_lt h1 (Nat.pow_lt_pow_right (by decide) (by omega)))
    rw [← LB_two]; exact lim_lt h _
  refine ⟨?_, hlt⟩
  have hs := valOf_set l (i / 32) (lim l (i / 32) ||| b * 2 ^ (i % 32)) hi
  rw [ho] at hs ⊢
  have e2 : b * 2 ^ i = LB ^ (i / 32) * (b * 2 ^ (i % 32)) := by rw [e, Nat.mul_left_comm]
  rw [e2]
  rw [Nat.mul_add] at hs
  unfold lim at hs ⊢
  omega
/-- a step of the division bit by bit -/
theorem dv_step {A B R Q i : Nat} (h1 : A / 2 ^ (i+1) = Q * B + R) (h2 : R < B) :
    (2 * R + A / 2 ^ i % 2 < B → A / 2 ^ i = (2 * Q) * B + (2 * R + A / 2 ^ i % 2)) ∧
    (B ≤ 2 * R + A / 2 ^ i % 2 → A / 2 ^ i = (2 * Q + 1) * B + (2 * R + A / 2 ^ i % 2 - B) ∧ 2 * R + A / 2 ^ i % 2 - B < B) := by
  have e := half_pow A i
  have hb : A / 2 ^ i % 2 < 2 := Nat.mod_lt _ (by decide)
  generalize A / 2 ^ i % 2 = b at *
  generalize A / 2 ^ i = V at *
  rw [h1] at e
  have e1 : (2 * Q) * B = 2 * (Q * B) := Nat.mul_assoc ..
  have e2 : (2 * Q + 1) * B = 2 * (Q * B) + B := by rw [Nat.add_mul, Nat.one_mul, Nat.mul_assoc]
  refine ⟨fun _ => by omega, fun _ => ⟨by omega, by omega⟩⟩
theorem div_mod_of {A B Q R : Nat} (h : A = Q * B + R) (hr : R < B) : Q = A / B ∧ R = A % B := by
  have hB : 0 < B := by omega
  have := Nat.div_mod_unique (a := A) (b := B) (c := R) (d := Q) hB
  have h2 := this.2 ⟨by rw [h, Nat.mul_comm]; omega, hr⟩
  exact ⟨h2.1.symm, h2.2.symm⟩
/-- the lower bits of a number, moved -/
def part (A i : Nat) (n : Int) : Nat := if n < 0 then (A % 2 ^ i) / 2 ^ (-n).toNat else (A % 2 ^ i) * 2 ^ n.toNat
theorem mod_bit (A i : Nat) : A % 2 ^ (i+1) = A % 2 ^ i + A / 2 ^ i % 2 * 2 ^ i := by
  rw [Nat.pow_succ, Nat.mod_mul, Nat.mul_comm (2 ^ i)]
theorem part_skip {A i : Nat} {n : Int} (h : (i : Int) + n < 0) : part A (i+1) n = part A i n := by
  have hn : n < 0 := by omega
  simp only [part, if_pos hn]
  have hm : i + 1 ≤ (-n).toNat := by omega
  have e1 : A % 2 ^ (i+1) < 2 ^ (-n).toNat := Nat.lt_of_lt_of_le (Nat.mod_lt _ (Nat.two_pow_pos _)) (Nat.pow_le_pow_right (by decide) hm)
  have e2 : A % 2 ^ i < 2 ^ (-n).toNat := Nat.lt_of_lt_of_le (Nat.mod_lt _ (Nat.two_pow_pos _)) (Nat.pow_le_pow_right (by decide) (by omega))
  rw [Nat.div_eq_of_lt e1, Nat.div_eq_of_lt e2]
theorem part_step {A i k : Nat} {n : Int} (h : (i : Int) + n = k) : part A (i+1) n = part A i n + A / 2 ^ i % 2 * 2 ^ k ∧ part A i n < 2 ^ k := by
  have hmod : A % 2 ^ i < 2 ^ i := Nat.mod_lt _ (Nat.two_pow_pos _)
  by_cases hn : n < 0
  · simp only [part, if_pos hn]
    generalize hm : (-n).toNat = m at *
    have e : i = k + m := by omega
    rw [mod_bit]
    have e2 : 2 ^ i = 2 ^ k * 2 ^ m := by rw [e, Nat.pow_add]
    refine ⟨?_, ?_⟩
    · conv => lhs; rw [show A / 2 ^ i % 2 * 2 ^ i = 2 ^ m * (A / 2 ^ i % 2 * 2 ^ k) by rw [e2, ← Nat.mul_assoc]; exact Nat.mul_comm _ _]
      rw [Nat.add_mul_div_left _ _ (Nat.two_pow_pos m)]
    · refine Nat.div_lt_of_lt_mul ?_
      rw [Nat.mul_comm, ← e2]; exact hmod
  · simp only [part, if_neg hn]
    generalize hm : n.toNat = m at *
    have e : k = i + m := by omega
    rw [mod_bit, e, Nat.pow_add, Nat.add_mul, Nat.mul_assoc]
    exact ⟨rfl, Nat.mul_lt_mul_of_pos_right hmod (Nat.two_pow_pos m)⟩
theorem part_all {A i : Nat} (h : A < 2 ^ i) (n : Int) : part A i n = if n < 0 then A / 2 ^ (-n).toNat else A * 2 ^ n.toNat := by
  simp only [part, Nat.mod_eq_of_lt h]
theorem part_zero (A : Nat) (n : Int) : part A 0 n = 0 := by simp [part, Nat.mod_one]
/-- a step of the root bit by bit -/
theorem bitsN_half {t : Nat} (h : t ≠ 0) : bitsN t = bitsN (t / 2) + 1 := by
  by_cases h2 : t / 2 = 0
  · have : t = 1 := by omega
    subst this; decide
  · have h1 := bitsN_le h2
    have h3 := bitsN_lt (t / 2)
    obtain ⟨k, hk⟩ : ∃ k, bitsN (t / 2) = k + 1 := ⟨bitsN (t / 2) - 1, by
      have : bitsN (t/2) ≠ 0 := by simp [bitsN, h2]
      omega⟩
    rw [hk] at h1 h3 ⊢
    simp only [Nat.add_sub_cancel] at h1
    refine bitsN_unique ?_ ?_
    · rw [Nat.pow_succ]; omega
    · rw [Nat.pow_succ]; omega
/-- the bits of limbs: those of the last one, and 32 for each before -/
theorem bitsN_top {l : List Nat} {n : Nat} (h : ∀ x ∈ l, x < LB) (hl : l.length = n + 1) (h0 : lim l n ≠ 0) : bitsN (valOf l) = 32 * n + bitsN (lim l n) := by
  have hs := valOf_take_lim l n
  rw [List.take_of_length_le (by omega)] at hs
  have ht : valOf (l.take n) < LB ^ n := by
    have := valOf_lt (l.take n) (fun x hx => h x (List.mem_of_mem_take hx))
    rwa [List.length_take, Nat.min_eq_left (by omega)] at this
  have h1 := bitsN_le h0
  have h2 := bitsN_lt (lim l n)
  obtain ⟨k, hk⟩ : ∃ k, bitsN (lim l n) = k + 1 := ⟨bitsN (lim l n) - 1, by
      have : bitsN (lim l n) ≠ 0 := by simp [bitsN, h0]
      omega⟩
  rw [hk] at h1 h2 ⊢
  simp only [Nat.add_sub_cancel] at h1
  generalize lim l n = x at *
  rw [LB_pow] at hs ht
  rw [← Nat.add_assoc]
  refine bitsN_unique ?_ ?_
  · rw [hs, Nat.pow_add]
    have := Nat.mul_le_mul_left (2 ^ (32 * n)) h1
    omega
  · rw [hs, Nat.add_assoc, Nat.pow_add]
    have := Nat.mul_le_mul_left (2 ^ (32 * n)) (show x + 1 ≤ 2 ^ (k+1) from h2)
    rw [Nat.mul_add] at this
    omega
end Go.Proofs.YtgjbaamhpapeeaaGreatDoor
