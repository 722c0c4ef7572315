/- Plain law: the reference's bounds of the logarithms of the numbers of footages are next to each other. No program in sight. -/
import Derived.Test.YtafadpaljanghaaGreatDoorSgC
import Derived.Test.YtafadpaljanghaaGreatDoorRefE
namespace Go.Proofs.YtafadpaljanghaaGreatDoor
set_option linter.unusedSimpArgs false
set_option linter.unusedVariables false

/-- numbers of which the reference's bounds with P places are next to each other -/
def nearr (P n : Nat) : Bool := Nat.ble (lgr n P).2 ((lgr n P).1 + 1)
theorem lgr_two_mul {n P : Nat} (h : 0 < n) (h2 : n < 2 ^ 62) (hk : Go.Lib.bitLen n - 1 < 2 * P + 60) : lgr (2 * n) P = ((lgr n P).1 + 2 ^ P, (lgr n P).2 + 2 ^ P) := by
  unfold lgr
  rw [len_two h h2]
  generalize Go.Lib.bitLen n - 1 = k at *
  have e1 : (2 * n = 2 ^ (k + 1)) ↔ n = 2 ^ k := by rw [Nat.pow_succ]; omega
  by_cases hn : n = 2 ^ k
  · rw [if_pos hn, if_pos (e1.2 hn)]
    simp only [Nat.add_mul, Nat.one_mul]
  · rw [if_neg hn, if_neg (fun h0 => hn (e1.1 h0))]
    have e2 : 2 * n * 2 ^ (2 * P + 60 - (k + 1)) = n * 2 ^ (2 * P + 60 - k) := by
      rw [show 2 * P + 60 - k = (2 * P + 60 - (k + 1)) + 1 by omega, Nat.pow_succ]; ac_rfl
    rw [e2, lgL_add, Nat.one_mul]
theorem nearr_two {n P : Nat} (h : 0 < n) (h2 : n < 2 ^ 50) (hn : nearr P n = true) : nearr P (2 * n) = true := by
  have h64 : n < 2 ^ 64 := Nat.lt_trans h2 (by decide)
  obtain ⟨b1, b2⟩ := bitLen_bounds h h64
  have hk : Go.Lib.bitLen n - 1 < 50 := by
    rcases Nat.lt_or_ge (Go.Lib.bitLen n - 1) 50 with h0 | h0
    · exact h0
    · have := Nat.pow_le_pow_right (n := 2) (by decide) h0
      omega
  unfold nearr at hn ⊢
  rw [Nat.ble_eq] at hn ⊢
  rw [lgr_two_mul h (Nat.lt_trans h2 (by decide)) (by omega)]
  simp only []
  omega
def nearr_many (P a b : Nat) : Bool := (List.range b).all fun i => nearr P (2 * (a + i) + 1)
theorem nearr_at {P a b : Nat} (h : nearr_many P a b = true) {i : Nat} (h1 : a ≤ i) (h2 : i < a + b) : nearr P (2 * i + 1) = true := by
  have := List.all_eq_true.1 h (i - a) (List.mem_range.2 (by omega))
  rwa [show a + (i - a) = i by omega] at this
theorem near480_0 : nearr_many 480 0 20 = true := by decide +kernel
theorem near480_1 : nearr_many 480 20 20 = true := by decide +kernel
theorem near480_2 : nearr_many 480 40 20 = true := by decide +kernel
theorem near480_3 : nearr_many 480 60 20 = true := by decide +kernel
theorem near480_4 : nearr_many 480 80 20 = true := by decide +kernel
theorem near480_5 : nearr_many 480 100 20 = true := by decide +kernel
theorem near480_6 : nearr_many 480 120 20 = true := by decide +kernel
theorem near480_7 : nearr_many 480 140 20 = true := by decide +kernel
theorem near480_8 : nearr_many 480 160 20 = true := by decide +kernel
theorem near480_9 : nearr_many 480 180 20 = true := by decide +kernel
theorem near480_10 : nearr_many 480 200 20 = true := by decide +kernel
theorem near480_11 : nearr_many 480 220 20 = true := by decide +kernel
theorem near480_12 : nearr_many 480 240 20 = true := by decide +kernel
theorem near480_13 : nearr_many 480 260 20 = true := by decide +kernel
theorem near480_14 : nearr_many 480 280 20 = true := by decide +kernel
theorem near480_15 : nearr_many 480 300 20 = true := by decide +kernel
theorem near480_16 : nearr_many 480 320 20 = true := by decide +kernel
theorem near480_17 : nearr_many 480 340 20 = true := by decide +kernel
theorem near480_18 : nearr_many 480 360 20 = true := by decide +kernel
theorem near480_19 : nearr_many 480 380 20 = true := by decide +kernel
theorem near480_20 : nearr_many 480 400 20 = true := by decide +kernel
theorem near480_21 : nearr_many 480 420 20 = true := by decide +kernel
theorem near480_22 : nearr_many 480 440 20 = true := by decide +kernel
theorem near480_23 : nearr_many 480 460 20 = true := by decide +kernel
theorem nearr_odd {i : Nat} (h : i < 480) : nearr 480 (2 * i + 1) = true := by
  by_cases h0 : i < 20
  · exact nearr_at near480_0 (by omega) (by omega)
  by_cases h1 : i < 40
  · exact nearr_at near480_1 (by omega) (by omega)
  by_cases h2 : i < 60
  · exact nearr_at near480_2 (by omega) (by omega)
  by_cases h3 : i < 80
  · exact nearr_at near480_3 (by omega) (by omega)
  by_cases h4 : i < 100
  · exact nearr_at near480_4 (by omega) (by omega)
  by_cases h5 : i < 120
  · exact nearr_at near480_5 (by omega) (by omega)
  by_cases h6 : i < 140
  · exact nearr_at near480_6 (by omega) (by omega)
  by_cases h7 : i < 160
  · exact nearr_at near480_7 (by omega) (by omega)
  by_cases h8 : i < 180
  · exact nearr_at near480_8 (by omega) (by omega)
  by_cases h9 : i < 200
  · exact nearr_at near480_9 (by omega) (by omega)
  by_cases h10 : i < 220
  · exact nearr_at near480_10 (by omega) (by omega)
  by_cases h11 : i < 240
  · exact nearr_at near480_11 (by omega) (by omega)
  by_cases h12 : i < 260
  · exact nearr_at near480_12 (by omega) (by omega)
  by_cases h13 : i < 280
  · exact nearr_at near480_13 (by omega) (by omega)
  by_cases h14 : i < 300
  · exact nearr_at near480_14 (by omega) (by omega)
  by_cases h15 : i < 320
  · exact nearr_at near480_15 (by omega) (by omega)
  by_cases h16 : i < 340
  · exact nearr_at near480_16 (by omega) (by omega)
  by_cases h17 : i < 360
  · exact nearr_at near480_17 (by omega) (by omega)
  by_cases h18 : i < 380
  · exact nearr_at near480_18 (by omega) (by omega)
  by_cases h19 : i < 400
  · exact nearr_at near480_19 (by omega) (by omega)
  by_cases h20 : i < 420
  · exact nearr_at near480_20 (by omega) (by omega)
  by_cases h21 : i < 440
  · exact nearr_at near480_21 (by omega) (by omega)
  by_cases h22 : i < 460
  · exact nearr_at near480_22 (by omega) (by omega)
  by_cases h23 : i < 480
  · exact nearr_at near480_23 (by omega) (by omega)
  omega
theorem near480 : ∀ n : Nat, 1 ≤ n → n ≤ 960 → nearr 480 n = true := by
  intro n
  induction n using Nat.strongRecOn with
  | _ n ih =>
    intro h1 h2
    rcases Nat.mod_two_eq_zero_or_one n with h | h
    · have := ih (n / 2) (by omega) (by omega) (by omega)
      have h3 := nearr_two (n := n / 2) (by omega) (Nat.lt_of_le_of_lt (show n / 2 ≤ 960 by omega) (by decide)) this
      rwa [show 2 * (n / 2) = n by omega] at h3
    · have := nearr_odd (i := n / 2) (by omega)
      rwa [show 2 * (n / 2) + 1 = n by omega] at this
end Go.Proofs.YtafadpaljanghaaGreatDoor
