/- Plain law: the bounds of the logarithms of the numbers of footages are next to each other. No program in sight. -/
import Derived.Test.YtafadpaljanghaaGreatDoorSgA
namespace Go.Proofs.YtafadpaljanghaaGreatDoor
set_option linter.unusedSimpArgs false
set_option linter.unusedVariables false

theorem lgL_add (D : Nat) : ∀ (r a b s c : Nat), lgL D r a b (s + c) = ((lgL D r a b s).1 + c * 2 ^ r, (lgL D r a b s).2 + c * 2 ^ r)
  | 0, a, b, s, c => by simp [lgL]; omega
  | r+1, a, b, s, c => by
    have e : c * 2 ^ (r + 1) = 2 * c * 2 ^ r := by rw [Nat.pow_succ]; ac_rfl
    rw [lgL, lgL]
    split
    · rw [show 2 * (s + c) + 1 = 2 * s + 1 + 2 * c by omega, lgL_add D r, e]
    · split
      · simp only [Nat.add_mul, Prod.mk.injEq]
        exact ⟨trivial, Nat.add_right_comm _ _ _⟩
      · rw [show 2 * (s + c) = 2 * s + 2 * c by omega, lgL_add D r, e]
theorem len_uniq {n k : Nat} (h1 : 2 ^ k ≤ n) (h2 : n < 2 ^ (k + 1)) (h64 : n < 2 ^ 64) : Go.Lib.bitLen n - 1 = k := by
  have hp : 0 < n := Nat.lt_of_lt_of_le (Nat.pow_pos (by decide)) h1
  obtain ⟨b1, b2⟩ := bitLen_bounds hp h64
  rcases Nat.lt_trichotomy (Go.Lib.bitLen n - 1) k with h | h | h
  · have := Nat.pow_le_pow_right (n := 2) (by decide) (show Go.Lib.bitLen n - 1 + 1 ≤ k by omega)
    omega
  · exact h
  · have := Nat.pow_le_pow_right (n := 2) (by decide) (show k + 1 ≤ Go.Lib.bitLen n - 1 by omega)
    omega
theorem len_two {n : Nat} (h : 0 < n) (h2 : n < 2 ^ 62) : Go.Lib.bitLen (2 * n) - 1 = Go.Lib.bitLen n - 1 + 1 := by
  have h64 : n < 2 ^ 64 := Nat.lt_trans h2 (by decide)
  obtain ⟨b1, b2⟩ := bitLen_bounds h h64
  refine len_uniq ?_ ?_ (by omega)
  · rw [Nat.pow_succ]; omega
  · rw [Nat.pow_succ]; omega
theorem lg_two_mul {n P : Nat} (h : 0 < n) (h2 : n < 2 ^ 62) (hk : Go.Lib.bitLen n - 1 < 2 * P + 64) : lg (2 * n) P = ((lg n P).1 + 2 ^ P, (lg n P).2 + 2 ^ P) := by
  unfold lg
  rw [len_two h h2]
  generalize Go.Lib.bitLen n - 1 = k at *
  have e1 : (2 * n = 2 ^ (k + 1)) ↔ n = 2 ^ k := by rw [Nat.pow_succ]; omega
  by_cases hn : n = 2 ^ k
  · rw [if_pos hn, if_pos (e1.2 hn)]
    simp only [Nat.add_mul, Nat.one_mul]
  · rw [if_neg hn, if_neg (fun h0 => hn (e1.1 h0))]
    have e2 : 2 * n * 2 ^ (2 * P + 64 - (k + 1)) = n * 2 ^ (2 * P + 64 - k) := by
      rw [show 2 * P + 64 - k = (2 * P + 64 - (k + 1)) + 1 by omega, Nat.pow_succ]; ac_rfl
    rw [e2, lgL_add, Nat.one_mul]
theorem near_two {n P : Nat} (h : 0 < n) (h2 : n < 2 ^ 50) (hn : near P n = true) : near P (2 * n) = true := by
  have h64 : n < 2 ^ 64 := Nat.lt_trans h2 (by decide)
  obtain ⟨b1, b2⟩ := bitLen_bounds h h64
  have hk : Go.Lib.bitLen n - 1 < 50 := by
    rcases Nat.lt_or_ge (Go.Lib.bitLen n - 1) 50 with h0 | h0
    · exact h0
    · have := Nat.pow_le_pow_right (n := 2) (by decide) h0
      omega
  unfold near at hn ⊢
  rw [Nat.ble_eq] at hn ⊢
  rw [lg_two_mul h (Nat.lt_trans h2 (by decide)) (by omega)]
  simp only []
  omega
def near_many (P a b : Nat) : Bool := (List.range b).all fun i => near P (2 * (a + i) + 1)
theorem near_at {P a b : Nat} (h : near_many P a b = true) {i : Nat} (h1 : a ≤ i) (h2 : i < a + b) : near P (2 * i + 1) = true := by
  have := List.all_eq_true.1 h (i - a) (List.mem_range.2 (by omega))
  rwa [show a + (i - a) = i by omega] at this
theorem near256_0 : near_many 256 0 40 = true := by decide +kernel
theorem near256_1 : near_many 256 40 40 = true := by decide +kernel
theorem near256_2 : near_many 256 80 40 = true := by decide +kernel
theorem near256_3 : near_many 256 120 40 = true := by decide +kernel
theorem near256_4 : near_many 256 160 40 = true := by decide +kernel
theorem near256_5 : near_many 256 200 40 = true := by decide +kernel
theorem near256_6 : near_many 256 240 40 = true := by decide +kernel
theorem near256_7 : near_many 256 280 40 = true := by decide +kernel
theorem near256_8 : near_many 256 320 40 = true := by decide +kernel
theorem near256_9 : near_many 256 360 40 = true := by decide +kernel
theorem near256_10 : near_many 256 400 40 = true := by decide +kernel
theorem near256_11 : near_many 256 440 40 = true := by decide +kernel
theorem near_odd {i : Nat} (h : i < 480) : near 256 (2 * i + 1) = true := by
  by_cases h0 : i < 40
  · exact near_at near256_0 (by omega) (by omega)
  by_cases h1 : i < 80
  · exact near_at near256_1 (by omega) (by omega)
  by_cases h2 : i < 120
  · exact near_at near256_2 (by omega) (by omega)
  by_cases h3 : i < 160
  · exact near_at near256_3 (by omega) (by omega)
  by_cases h4 : i < 200
  · exact near_at near256_4 (by omega) (by omega)
  by_cases h5 : i < 240
  · exact near_at near256_5 (by omega) (by omega)
  by_cases h6 : i < 280
  · exact near_at near256_6 (by omega) (by omega)
  by_cases h7 : i < 320
  · exact near_at near256_7 (by omega) (by omega)
  by_cases h8 : i < 360
  · exact near_at near256_8 (by omega) (by omega)
  by_cases h9 : i < 400
  · exact near_at near256_9 (by omega) (by omega)
  by_cases h10 : i < 440
  · exact near_at near256_10 (by omega) (by omega)
  by_cases h11 : i < 480
  · exact near_at near256_11 (by omega) (by omega)
  omega
theorem near256 : ∀ n : Nat, 1 ≤ n → n ≤ 960 → near 256 n = true := by
  intro n
  induction n using Nat.strongRecOn with
  | _ n ih =>
    intro h1 h2
    rcases Nat.mod_two_eq_zero_or_one n with h | h
    · have := ih (n / 2) (by omega) (by omega) (by omega)
      have h3 := near_two (n := n / 2) (by omega) (Nat.lt_of_le_of_lt (show n / 2 ≤ 960 by omega) (by decide)) this
      rwa [show 2 * (n / 2) = n by omega] at h3
    · have := near_odd (i := n / 2) (by omega)
      rwa [show 2 * (n / 2) + 1 = n by omega] at this
end Go.Proofs.YtafadpaljanghaaGreatDoor
