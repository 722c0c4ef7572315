/- Plain law: the ratio of two whole numbers is that of their quotients by a common divisor. No program in sight. -/
import Derived.Test.YtcmofoggdchofaaDoorRatJ
namespace Go.Proofs.YtcmofoggdchofaaDoor
set_option linter.unusedSimpArgs false
set_option linter.unusedVariables false

theorem prime_div : ∀ d, d ≤ 13 → ∀ i, i < 6 → d ∣ prime i → d = 1 ∨ d = prime i := by decide
theorem prime_cop {i a : Nat} (hi : i < 6) (h : ¬ prime i ∣ a) : Nat.gcd (prime i) a = 1 := by
  have hp := prime_two hi
  have h1 := Nat.gcd_dvd_left (prime i) a
  have h2 := Nat.le_of_dvd (by omega) h1
  rcases prime_div _ (by omega) i hi h1 with h3 | h3
  · exact h3
  · exact absurd (h3 ▸ Nat.gcd_dvd_right (prime i) a) h
theorem vb_split {i n : Nat} (hi : i < 6) (hn : 0 < n) : ∃ m, n = prime i ^ vb (prime i) n * m ∧ 0 < m ∧ Nat.gcd (prime i) m = 1 ∧ n / prime i ^ vb (prime i) n = m := by
  have hp := prime_two hi
  obtain ⟨h1, h2⟩ := vb_dvd hp.1 n hn
  have hpp : 0 < prime i ^ vb (prime i) n := Nat.pow_pos (by omega)
  have hm : 0 < n / prime i ^ vb (prime i) n := Nat.div_pos (Nat.le_of_dvd hn h1) hpp
  refine ⟨_, (Nat.mul_div_cancel' h1).symm, hm, prime_cop hi fun hd => ?_, rfl⟩
  rw [vb_div hp.1 hm, if_pos (Nat.mod_eq_zero_of_dvd hd)] at h2
  omega
theorem vb_times {i a b : Nat} (hi : i < 6) (ha : 0 < a) (hb : 0 < b) : vb (prime i) (a * b) = vb (prime i) a + vb (prime i) b ∧ a * b / prime i ^ vb (prime i) (a * b) = (a / prime i ^ vb (prime i) a) * (b / prime i ^ vb (prime i) b) := by
  have hp := prime_two hi
  obtain ⟨m, e1, m0, m1, m2⟩ := vb_split hi ha
  obtain ⟨n, f1, n0, n1, n2⟩ := vb_split hi hb
  have e : a * b = prime i ^ (vb (prime i) a + vb (prime i) b) * (m * n) := by
    rw [Nat.pow_add]
    calc a * b = (prime i ^ vb (prime i) a * m) * (prime i ^ vb (prime i) b * n) := by rw [← e1, ← f1]
      _ = _ := by ac_rfl
  have hv : vb (prime i) (a * b) = vb (prime i) a + vb (prime i) b := by
    rw [e]
    exact vb_pow hp.1 (Nat.mul_pos m0 n0) (Nat.Coprime.mul_right m1 n1) _
  refine ⟨hv, ?_⟩
  rw [m2, n2, hv]
  rw [e]
  exact Nat.mul_div_cancel_left _ (Nat.pow_pos (by omega))
theorem stripN_times {a b : Nat} (ha : 0 < a) (hb : 0 < b) : ∀ {i : Nat}, i ≤ 6 → stripN (a * b) i = stripN a i * stripN b i
  | 0, _ => rfl
  | i+1, hi => by
    have ih := stripN_times ha hb (i := i) (by omega)
    rw [stripN, stripN, stripN, ih]
    exact (vb_times (by omega) (stripN_pos ha (by omega)).1 (stripN_pos hb (by omega)).1).2
theorem ex_times {a b i : Nat} (ha : 0 < a) (hb : 0 < b) (hi : i < 6) : ex (a * b) i = ex a i + ex b i := by
  unfold ex
  rw [stripN_times ha hb (by omega)]
  exact (vb_times hi (stripN_pos ha (by omega)).1 (stripN_pos hb (by omega)).1).1
theorem stripN_dvd {x : Nat} (hx : 0 < x) : ∀ {i : Nat}, i ≤ 6 → stripN x i ∣ x
  | 0, _ => Nat.dvd_refl _
  | i+1, hi => by
    have ih := stripN_dvd hx (i := i) (by omega)
    rw [stripN]
    exact Nat.dvd_trans (Nat.div_dvd_of_dvd (vb_dvd (prime_two (by omega)).1 _ (stripN_pos hx (by omega)).1).1) ih
/-- what the program and the document give is the same -/
theorem of_same {x y : Nat} (hx : 0 < x) (hy : 0 < y) :
    (if stripN (x / Nat.gcd x y) 6 = 1 ∧ stripN (y / Nat.gcd x y) 6 = 1 then (RV.of (ofF (x / Nat.gcd x y) (y / Nat.gcd x y) 6) 1, (0 : Int)) else (RVzero, 7)) =
    (if stripN x 6 = stripN y 6 then (RV.of (ofF x y 6) 1, (0 : Int)) else (RVzero, 7)) := by
  have hg : 0 < Nat.gcd x y := Nat.gcd_pos_of_pos_left _ hx
  obtain ⟨a, ha⟩ := Nat.gcd_dvd_left x y
  obtain ⟨b, hb⟩ := Nat.gcd_dvd_right x y
  have hcop : Nat.gcd (x / Nat.gcd x y) (y / Nat.gcd x y) = 1 := Nat.coprime_div_gcd_div_gcd hg
  have hxa : x / Nat.gcd x y = a := by
    have := congrArg (· / Nat.gcd x y) ha
    simpa [Nat.mul_div_cancel_left _ hg] using this
  have hyb : y / Nat.gcd x y = b := by
    have := congrArg (· / Nat.gcd x y) hb
    simpa [Nat.mul_div_cancel_left _ hg] using this
  rw [hxa, hyb] at hcop ⊢
  generalize Nat.gcd x y = g at *
  have ha0 : 0 < a := Nat.pos_of_ne_zero fun h => by subst h; simp at ha; omega
  have hb0 : 0 < b := Nat.pos_of_ne_zero fun h => by subst h; simp at hb; omega
  have hsx : stripN x 6 = stripN g 6 * stripN a 6 := by rw [ha, stripN_times hg ha0 (by omega)]
  have hsy : stripN y 6 = stripN g 6 * stripN b 6 := by rw [hb, stripN_times hg hb0 (by omega)]
  have hiff : (stripN a 6 = 1 ∧ stripN b 6 = 1) ↔ stripN x 6 = stripN y 6 := by
    rw [hsx, hsy]
    constructor
    · rintro ⟨h1, h2⟩; rw [h1, h2]
    · intro h
      have h3 := Nat.eq_of_mul_eq_mul_left (stripN_pos hg (by omega)).1 h
      have h4 : stripN a 6 ∣ Nat.gcd a b := Nat.dvd_gcd (stripN_dvd ha0 (by omega)) (by rw [h3]; exact stripN_dvd hb0 (by omega))
      rw [hcop] at h4
      have h5 := Nat.eq_one_of_dvd_one h4
      exact ⟨h5, by rw [← h3]; exact h5⟩
  have hF : RV.of (ofF a b 6) 1 = RV.of (ofF x y 6) 1 := RV.of_congr 1 fun j hj => by
    unfold ofF
    rw [if_pos hj, if_pos hj, ha, hb, ex_times hg ha0 hj, ex_times hg hb0 hj]
    omega
  by_cases h : stripN x 6 = stripN y 6
  · rw [if_pos (hiff.2 h), if_pos h, hF]
  · rw [if_neg (fun h2 => h (hiff.1 h2)), if_neg h]
end Go.Proofs.YtcmofoggdchofaaDoor
