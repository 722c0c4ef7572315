/- Plain law: bounds of logarithms of any numbers; the sign of a product that is not too great is shown by few binary places. No program in sight. -/
import Derived.Test.YtafadpaljanghaaGreatDoorRatE
namespace Go.Proofs.YtafadpaljanghaaGreatDoor
set_option linter.unusedSimpArgs false
set_option linter.unusedVariables false

theorem bern (u : Nat) : ∀ n : Nat, u ^ n * (u + n) ≤ (u + 1) ^ n * u
  | 0 => by simp
  | n+1 => by
    have ih := bern u n
    have e1 : (u + 1) ^ (n + 1) * u = (u + 1) * ((u + 1) ^ n * u) := by rw [Nat.pow_succ]; ac_rfl
    have e2 := Nat.mul_le_mul_left (u + 1) ih
    have e3 : (u + 1) * (u ^ n * (u + n)) = u ^ n * ((u + 1) * (u + n)) := by ac_rfl
    have e4 : u ^ (n + 1) * (u + (n + 1)) = u ^ n * (u * (u + (n + 1))) := by rw [Nat.pow_succ]; ac_rfl
    have e5 : u * (u + (n + 1)) ≤ (u + 1) * (u + n) := by
      simp only [Nat.mul_add, Nat.add_mul, Nat.one_mul, Nat.mul_one]; omega
    rw [e1, e4]
    exact Nat.le_trans (Nat.mul_le_mul_left _ e5) (by rw [← e3]; exact e2)
theorem bern2 {u : Nat} (hu : 1 ≤ u) : 2 * u ^ u ≤ (u + 1) ^ u := by
  have h := bern u u
  have e : u ^ u * (u + u) = (2 * u ^ u) * u := by rw [← Nat.two_mul]; ac_rfl
  rw [e] at h
  exact Nat.le_of_mul_le_mul_right h hu
/-- two numbers differ by a factor that their powers show -/
theorem apart {u d P t : Nat} (hu : 1 ≤ u) (h : u < d) (hP : u * (t + 1) ≤ 2 ^ P) : u ^ 2 ^ P * 2 ^ t < d ^ 2 ^ P := by
  have hq : t + 1 ≤ 2 ^ P / u := by rw [Nat.le_div_iff_mul_le hu, Nat.mul_comm]; exact hP
  have hm := Nat.div_add_mod (2 ^ P) u
  have hp : 0 < u ^ 2 ^ P := Nat.pow_pos hu
  generalize 2 ^ P / u = q at *
  generalize 2 ^ P % u = r at *
  generalize 2 ^ P = M at *
  have h1 : (u + 1) ^ M ≤ d ^ M := Nat.pow_le_pow_left h M
  have h2 : (u + 1) ^ M = ((u + 1) ^ u) ^ q * (u + 1) ^ r := by rw [← Nat.pow_mul, ← Nat.pow_add, hm]
  have h3 : (2 * u ^ u) ^ q * u ^ r ≤ ((u + 1) ^ u) ^ q * (u + 1) ^ r := Nat.mul_le_mul (Nat.pow_le_pow_left (bern2 hu) q) (Nat.pow_le_pow_left (Nat.le_succ u) r)
  have h4 : (2 * u ^ u) ^ q * u ^ r = 2 ^ q * u ^ M := by rw [Nat.mul_pow, ← Nat.pow_mul, Nat.mul_assoc, ← Nat.pow_add, hm]
  have h5 : 2 ^ (t + 1) ≤ 2 ^ q := Nat.pow_le_pow_right (by decide) hq
  have h6 := Nat.mul_le_mul_right (u ^ M) h5
  rw [Nat.pow_succ] at h6
  have h7 : 0 < 2 ^ t * u ^ M := Nat.mul_pos (Nat.pow_pos (by decide)) hp
  rw [Nat.mul_comm (u ^ M)]
  have h8 : 2 ^ t * 2 * u ^ M = 2 ^ t * u ^ M + 2 ^ t * u ^ M := by rw [Nat.mul_comm (2 ^ t) 2, Nat.mul_assoc, Nat.two_mul]
  omega
/-- the exponents of the numbers whose bounds differ -/
def tote (e : Nat → Nat) : List (Nat × Int) → Nat
  | [] => 0
  | (n, k) :: l => e n * k.natAbs + tote e l
theorem widthE {B : Nat → Nat × Nat} {e : Nat → Nat} : ∀ {l : List (Nat × Int)}, (∀ x ∈ l, (B x.1).2 ≤ (B x.1).1 + e x.1) → (sumB B l).1.2 ≤ (sumB B l).1.1 + tote e l ∧ (sumB B l).2.2 ≤ (sumB B l).2.1 + tote e l
  | [], _ => by simp [sumB, tote]
  | (n, k) :: l, h => by
    obtain ⟨h1, h2⟩ := widthE (B := B) (e := e) (l := l) fun x hx => h x (List.mem_cons_of_mem _ hx)
    have hn := h _ List.mem_cons_self
    simp only [] at hn
    have hm := Nat.mul_le_mul_right k.natAbs hn
    rw [Nat.add_mul] at hm
    rw [sumB, tote]
    split <;> simp only [] <;> omega
/-- so many places show the sign, or the product is 1 -/
theorem decidedE {B : Nat → Nat × Nat} {e : Nat → Nat} {l : List (Nat × Int)} {P T : Nat} (hB : ∀ x ∈ l, Bd x.1 P (B x.1)) (hw : ∀ x ∈ l, (B x.1).2 ≤ (B x.1).1 + e x.1) (hT : tote e l ≤ T) (h0 : 1 ≤ up l ∧ 1 ≤ down l)
    (hs : up l * (2 * T + 1) ≤ 2 ^ P ∨ down l * (2 * T + 1) ≤ 2 ^ P) (hg : guessG (sumB B l) = none) : up l = down l := by
  obtain ⟨w1, w2⟩ := widthE hw
  obtain ⟨b1, b2⟩ := sumB_bd hB
  unfold guessG at hg
  split at hg
  · cases hg
  · rename_i c1
    split at hg
    · cases hg
    · rename_i c2
      unfold Bd at b1 b2
      have key : ∀ {u d : Nat} {x y : Nat × Nat}, (2 ^ x.1 ≤ u ^ 2 ^ P ∧ u ^ 2 ^ P ≤ 2 ^ x.2) → (2 ^ y.1 ≤ d ^ 2 ^ P ∧ d ^ 2 ^ P ≤ 2 ^ y.2) → x.2 ≤ x.1 + T → y.2 ≤ y.1 + T → y.1 ≤ x.2 → 1 ≤ u → (u * (2 * T + 1) ≤ 2 ^ P ∨ d * (2 * T + 1) ≤ 2 ^ P) → ¬ u < d := by
        intro u d x y hx hy wx wy hyx hu hP hlt
        have hP1 : u * (2 * T + 1) ≤ 2 ^ P := by
          rcases hP with h | h
          · exact h
          · exact Nat.le_trans (Nat.mul_le_mul_right _ (Nat.le_of_lt hlt)) h
        have a1 := apart hu hlt hP1
        have a2 : d ^ 2 ^ P ≤ 2 ^ (x.1 + 2 * T) := Nat.le_trans hy.2 (Nat.pow_le_pow_right (by decide) (by omega))
        rw [Nat.pow_add] at a2
        have a3 := Nat.mul_le_mul_right (2 ^ (2 * T)) hx.1
        omega
      have n1 := key b1 b2 (by omega) (by omega) (by omega) h0.1 hs
      have n2 := key b2 b1 (by omega) (by omega) (by omega) h0.2 hs.symm
      omega
theorem upc (v : Nat) : ∃ d, (if 0 < v % W64 then 1 else 0) = d ∧ (d = 0 ∧ v % W64 = 0 ∨ d = 1 ∧ 0 < v % W64) := by
  split
  · exact ⟨1, rfl, .inr ⟨rfl, by assumption⟩⟩
  · exact ⟨0, rfl, .inl ⟨rfl, by omega⟩⟩
theorem W63_pos : 0 < W63 := by unfold W63; omega
theorem qloop_bd {n : Nat} (r : Nat) : ∀ (t a b s : Nat), a * 2 ^ s ≤ n ^ 2 ^ t * W63 → n ^ 2 ^ t * W63 ≤ b * 2 ^ s → W63 ≤ a → b < 2 * W63 → Bd n (t + r) (qloop r a b s) := by
  induction r with
  | zero =>
    intro t a b s h1 h2 h3 h4
    unfold qloop Bd
    refine ⟨?_, ?_⟩
    · have : 2 ^ s * W63 ≤ n ^ 2 ^ t * W63 := Nat.le_trans (by rw [Nat.mul_comm]; exact Nat.mul_le_mul_right _ h3) h1
      exact Nat.le_of_mul_le_mul_right this W63_pos
    · have : n ^ 2 ^ t * W63 ≤ 2 ^ (s + 1) * W63 := Nat.le_trans h2 (by
        rw [Nat.pow_succ, Nat.mul_assoc, Nat.mul_comm b]
        exact Nat.mul_le_mul_left _ (by omega))
      exact Nat.le_of_mul_le_mul_right this W63_pos
  | succ r ih =>
    intro t a b s h1 h2 h3 h4
    have hD := W63_pos
    have et : t + (r + 1) = t + 1 + r := by omega
    have p2 : (2 : Nat) ^ (2 * s) = 2 ^ s * 2 ^ s := by rw [Nat.two_mul, Nat.pow_add]
    have e1 : a * a * 2 ^ (2 * s) ≤ n ^ 2 ^ (t + 1) * (W63 * W63) := by
      have := Nat.mul_le_mul h1 h1
      rw [pow_two_mul, p2]
      calc a * a * (2 ^ s * 2 ^ s) = (a * 2 ^ s) * (a * 2 ^ s) := by ac_rfl
        _ ≤ _ := this
        _ = _ := by ac_rfl
    have e2 : n ^ 2 ^ (t + 1) * (W63 * W63) ≤ b * b * 2 ^ (2 * s) := by
      have := Nat.mul_le_mul h2 h2
      rw [pow_two_mul, p2]
      calc n ^ 2 ^ t * n ^ 2 ^ t * (W63 * W63) = (n ^ 2 ^ t * W63) * (n ^ 2 ^ t * W63) := by ac_rfl
        _ ≤ _ := this
        _ = _ := by ac_rfl
    have la : W63 * W63 ≤ a * a := Nat.mul_le_mul h3 h3
    have lb : b * b < 2 * W63 * (2 * W63) := Nat.mul_lt_mul'' h4 h4
    have lab : a * a ≤ b * b := by
      have h5 : a * a * 2 ^ (2 * s) ≤ b * b * 2 ^ (2 * s) := Nat.le_trans e1 e2
      exact Nat.le_of_mul_le_mul_right h5 (Nat.pow_pos (by decide))
    have stop : Bd n (t + (r + 1)) (s * 2 ^ (r + 1), (s + 1) * 2 ^ (r + 1)) := by
      unfold Bd
      have l1 : 2 ^ s ≤ n ^ 2 ^ t := by
        have : 2 ^ s * W63 ≤ n ^ 2 ^ t * W63 := Nat.le_trans (by rw [Nat.mul_comm]; exact Nat.mul_le_mul_right _ h3) h1
        exact Nat.le_of_mul_le_mul_right this hD
      have l2 : n ^ 2 ^ t ≤ 2 ^ (s + 1) := by
        have : n ^ 2 ^ t * W63 ≤ 2 ^ (s + 1) * W63 := Nat.le_trans h2 (by
          rw [Nat.pow_succ, Nat.mul_assoc, Nat.mul_comm b]
          exact Nat.mul_le_mul_left _ (by omega))
        exact Nat.le_of_mul_le_mul_right this hD
      rw [Nat.pow_add 2 t, Nat.pow_mul n, Nat.pow_mul 2 s, Nat.pow_mul 2 (s + 1)]
      exact ⟨Nat.pow_le_pow_left l1 _, Nat.pow_le_pow_left l2 _⟩
    rw [qloop]
    cases hq : qstep a b s with
    | none => exact stop
    | some y =>
      obtain ⟨x, z, s'⟩ := y
      rw [et]
      unfold qstep at hq
      simp only [] at hq
      generalize a * a = p at *
      generalize b * b = q at *
      have hb01 : p / W64 / W63 = 0 ∨ p / W64 / W63 = 1 := by unfold W63 W64 at *; omega
      rcases hb01 with h0 | h0
      · rw [h0] at hq
        simp only [if_true] at hq
        obtain ⟨d, hd, hd2⟩ := upc (2 * q)
        rw [hd] at hq
        split at hq
        · rename_i hc
          injection hq with hq
          injection hq with hx hq
          injection hq with hz hs
          have hx1 : x = p / W63 := by unfold W63 W64 at *; omega
          have hz1 : q ≤ z * W63 ∧ z < 2 * W63 := by unfold W63 W64 at *; omega
          have hx2 : W63 ≤ x := by unfold W63 W64 at *; omega
          have hx3 : x * W63 ≤ p := by rw [hx1]; exact Nat.div_mul_le_self _ _
          rw [← hs]
          refine ih (t + 1) x z _ ?_ ?_ hx2 hz1.2
          · rw [Nat.add_zero]
            refine Nat.le_of_mul_le_mul_right (c := W63) ?_ hD
            calc x * 2 ^ (2 * s) * W63 = x * W63 * 2 ^ (2 * s) := by ac_rfl
              _ ≤ p * 2 ^ (2 * s) := Nat.mul_le_mul_right _ hx3
              _ ≤ _ := e1
              _ = _ := by ac_rfl
          · rw [Nat.add_zero]
            refine Nat.le_of_mul_le_mul_right (c := W63) ?_ hD
            calc n ^ 2 ^ (t + 1) * W63 * W63 = n ^ 2 ^ (t + 1) * (W63 * W63) := by ac_rfl
              _ ≤ q * 2 ^ (2 * s) := e2
              _ ≤ z * W63 * 2 ^ (2 * s) := Nat.mul_le_mul_right _ hz1.1
              _ = _ := by ac_rfl
        · cases hq
      · rw [h0] at hq
        simp only [show ¬ (1 = 0) by decide, if_false] at hq
        obtain ⟨d, hd, hd2⟩ := upc q
        rw [hd] at hq
        split at hq
        · rename_i hc
          injection hq with hq
          injection hq with hx hq
          injection hq with hz hs
          have hz1 : q ≤ z * (2 * W63) ∧ z < 2 * W63 := by unfold W63 W64 at *; omega
          have hx2 : W63 ≤ x := by unfold W63 W64 at *; omega
          have hx3 : x * (2 * W63) ≤ p := by
            have e : (2 * W63) = W64 := rfl
            rw [← hx, e]; exact Nat.div_mul_le_self _ _
          rw [← hs]
          refine ih (t + 1) x z _ ?_ ?_ hx2 hz1.2
          · refine Nat.le_of_mul_le_mul_right (c := W63) ?_ hD
            calc x * 2 ^ (2 * s + 1) * W63 = x * (2 * W63) * 2 ^ (2 * s) := by rw [Nat.pow_succ]; generalize W63 = c; ac_rfl
              _ ≤ p * 2 ^ (2 * s) := Nat.mul_le_mul_right _ hx3
              _ ≤ _ := e1
              _ = _ := by ac_rfl
          · refine Nat.le_of_mul_le_mul_right (c := W63) ?_ hD
            calc n ^ 2 ^ (t + 1) * W63 * W63 = n ^ 2 ^ (t + 1) * (W63 * W63) := by ac_rfl
              _ ≤ q * 2 ^ (2 * s) := e2
              _ ≤ z * (2 * W63) * 2 ^ (2 * s) := Nat.mul_le_mul_right _ hz1.1
              _ = z * 2 ^ (2 * s + 1) * W63 := by rw [Nat.pow_succ]; generalize W63 = c; ac_rfl
        · cases hq
/-- quick's bounds are right -/
theorem qk_bd {n : Nat} (h : 0 < n) (h2 : n < 2 ^ 50) : Bd n 28 (qk n) := by
  have h64 : n < 2 ^ 64 := Nat.lt_trans h2 (by decide)
  obtain ⟨b1, b2⟩ := bitLen_bounds h h64
  have hk : Go.Lib.bitLen n - 1 < 50 := by
    rcases Nat.lt_or_ge (Go.Lib.bitLen n - 1) 50 with h0 | h0
    · exact h0
    · have := Nat.pow_le_pow_right (n := 2) (by decide) h0
      omega
  unfold qk
  generalize Go.Lib.bitLen n - 1 = k at *
  split
  · rename_i he
    unfold Bd
    simp only []
    have e28 : 268435456 = 2 ^ 28 := by decide
    rw [e28, Nat.pow_mul, ← he]
    exact ⟨Nat.le_refl _, Nat.le_refl _⟩
  · have e1 : n * 2 ^ (63 - k) * 2 ^ k = n ^ 2 ^ 0 * W63 := by
      rw [Nat.mul_assoc, ← Nat.pow_add, Nat.sub_add_cancel (by omega), Nat.pow_zero, Nat.pow_one]
      rfl
    have := qloop_bd (n := n) 28 0 (n * 2 ^ (63 - k)) (n * 2 ^ (63 - k)) k (Nat.le_of_eq e1) (Nat.le_of_eq e1.symm)
      (by
        have : 2 ^ k * 2 ^ (63 - k) = W63 := by rw [← Nat.pow_add, show k + (63 - k) = 63 by omega]; rfl
        rw [← this]
        exact Nat.mul_le_mul_right _ b1)
      (by
        have : 2 * W63 = 2 ^ (k + 1) * 2 ^ (63 - k) := by rw [← Nat.pow_add, show k + 1 + (63 - k) = 64 by omega]; rfl
        rw [this]
        exact Nat.mul_lt_mul_of_pos_right b2 (Nat.pow_pos (by decide)))
    rwa [Nat.zero_add] at this
theorem qloop_le : ∀ (r a b s : Nat), a < W64 → (qloop r a b s).1 ≤ (s + 1) * 2 ^ r ∧ (qloop r a b s).2 ≤ (s + 1) * 2 ^ r
  | 0, a, b, s, _ => by unfold qloop; simp
  | r+1, a, b, s, ha => by
    rw [qloop]
    cases hq : qstep a b s with
    | none => exact ⟨Nat.mul_le_mul_right _ (Nat.le_succ _), Nat.le_refl _⟩
    | some y =>
      obtain ⟨x, z, s'⟩ := y
      have la : a * a < W64 * W64 := Nat.mul_lt_mul'' ha ha
      have hs : s' ≤ 2 * s + 1 ∧ x < W64 := by
        unfold qstep at hq
        simp only [] at hq
        generalize a * a = p at *
        have hb : p / W64 / W63 = 0 ∨ p / W64 / W63 = 1 := by unfold W64 W63 at *; omega
        rcases hb with h0 | h0
        · rw [h0] at hq
          simp only [if_true] at hq
          obtain ⟨d, hd, hd2⟩ := upc (2 * (b * b))
          rw [hd] at hq
          split at hq
          · injection hq with hq
            injection hq with hx hq
            injection hq with _ hs
            exact ⟨by omega, by rw [← hx]; exact Nat.mod_lt _ (by decide)⟩
          · cases hq
        · rw [h0] at hq
          simp only [show ¬ (1 = 0) by decide, if_false] at hq
          obtain ⟨d, hd, hd2⟩ := upc (b * b)
          rw [hd] at hq
          split at hq
          · injection hq with hq
            injection hq with hx hq
            injection hq with _ hs
            exact ⟨by omega, by rw [← hx]; unfold W64 at *; omega⟩
          · cases hq
      have ih := qloop_le r x z s' hs.2
      have h1 : (s' + 1) * 2 ^ r ≤ (s + 1) * 2 ^ (r + 1) := by
        rw [Nat.pow_succ, Nat.mul_comm (2 ^ r) 2, ← Nat.mul_assoc]
        exact Nat.mul_le_mul_right _ (by omega)
      exact ⟨Nat.le_trans ih.1 h1, Nat.le_trans ih.2 h1⟩
theorem qk_le {n : Nat} (h : 0 < n) (h2 : n < 2 ^ 50) : (qk n).1 < 1000000000000 ∧ (qk n).2 < 1000000000000 := by
  have h64 : n < 2 ^ 64 := Nat.lt_trans h2 (by decide)
  obtain ⟨b1, b2⟩ := bitLen_bounds h h64
  have hk : Go.Lib.bitLen n - 1 < 50 := by
    rcases Nat.lt_or_ge (Go.Lib.bitLen n - 1) 50 with h0 | h0
    · exact h0
    · have := Nat.pow_le_pow_right (n := 2) (by decide) h0
      omega
  unfold qk
  generalize Go.Lib.bitLen n - 1 = k at *
  split
  · simp only []
    omega
  · have ha : n * 2 ^ (63 - k) < W64 := by
      have : W64 = 2 ^ (k + 1) * 2 ^ (63 - k) := by rw [← Nat.pow_add, show k + 1 + (63 - k) = 64 by omega]; rfl
      rw [this]
      exact Nat.mul_lt_mul_of_pos_right b2 (Nat.pow_pos (by decide))
    have := qloop_le 28 (n * 2 ^ (63 - k)) (n * 2 ^ (63 - k)) k ha
    have e28 : 2 ^ 28 = 268435456 := by decide
    rw [e28] at this
    omega
/-- a number is a power of two just if it has no binary place in common with the one below it -/
theorem and_pred {n k : Nat} (h1 : 2 ^ k ≤ n) (h2 : n < 2 ^ (k + 1)) : (n &&& (n - 1) = 0) ↔ n = 2 ^ k := by
  constructor
  · intro h
    rcases Nat.lt_or_ge (2 ^ k) n with h3 | h3
    · exfalso
      have hp : 0 < 2 ^ k := Nat.pow_pos (by decide)
      have t1 : n.testBit k = true := by
        rw [Nat.testBit_eq_decide_div_mod_eq]
        rw [Nat.pow_succ] at h2
        have : n / 2 ^ k = 1 := by
          apply Nat.div_eq_of_lt_le <;> omega
        rw [this]; rfl
      have t2 : (n - 1).testBit k = true := by
        rw [Nat.testBit_eq_decide_div_mod_eq]
        rw [Nat.pow_succ] at h2
        have : (n - 1) / 2 ^ k = 1 := by
          apply Nat.div_eq_of_lt_le <;> omega
        rw [this]; rfl
      have : (n &&& (n - 1)).testBit k = true := by rw [Nat.testBit_and, t1, t2]; rfl
      rw [h] at this
      simp at this
    · omega
  · intro h
    rw [h, Nat.and_two_pow_sub_one_eq_mod, Nat.mod_self]
/-- numbers of which the bounds with P places are next to each other -/
def near (P n : Nat) : Bool := Nat.ble (lg n P).2 ((lg n P).1 + 1)
theorem up_pos : ∀ {l : List (Nat × Int)}, (∀ x ∈ l, 0 < x.1) → 1 ≤ up l ∧ 1 ≤ down l
  | [], _ => by unfold up down; exact ⟨by decide, by decide⟩
  | (n, k) :: l, h => by
    obtain ⟨h1, h2⟩ := up_pos (l := l) fun x hx => h x (List.mem_cons_of_mem _ hx)
    have hn := h _ List.mem_cons_self
    simp only [] at hn
    have hp : 0 < n ^ k.natAbs := Nat.pow_pos hn
    rw [up, down]
    split
    · exact ⟨Nat.mul_pos hp h1, h2⟩
    · exact ⟨h1, Nat.mul_pos hp h2⟩
end Go.Proofs.YtafadpaljanghaaGreatDoor
