/- Plain law: decimal numerals in parts. No program in sight. -/
import Derived.Test.YtalodfjplegibaaGreatDoorNatL
import Derived.Lib.ItoaNum
import Derived.Lib.Repeat
namespace Go.Proofs.YtalodfjplegibaaGreatDoor
set_option linter.unusedSimpArgs false
open Go.Lib
set_option linter.unusedVariables false

/-- the last j digits -/
def padD : Nat → Nat → List UInt8
  | 0, _ => []
  | j+1, r => padD j (r / 10) ++ [UInt8.ofNat (48 + r % 10)]
theorem decDigits_lt {x : Nat} (h : x < 10) : decDigits x = [UInt8.ofNat (48 + x)] := by rw [decDigits, dif_pos h]
theorem decDigits_ge {x : Nat} (h : ¬ x < 10) : decDigits x = decDigits (x / 10) ++ [UInt8.ofNat (48 + x % 10)] := by rw [decDigits, dif_neg h]
theorem padD_zero : ∀ j, padD j 0 = List.replicate j 48
  | 0 => rfl
  | j+1 => by rw [padD, Nat.zero_div, padD_zero j, List.replicate_succ']; rfl
theorem padD_eq : ∀ (j r : Nat), 0 < j → r < 10 ^ j → (decDigits r).length ≤ j ∧ List.replicate (j - (decDigits r).length) 48 ++ decDigits r = padD j r
  | 0, r, h, _ => absurd h (by decide)
  | j+1, r, _, hr => by
    by_cases h : r < 10
    · rw [decDigits_lt h]
      refine ⟨by simp, ?_⟩
      rw [padD, Nat.div_eq_of_lt h, padD_zero, Nat.mod_eq_of_lt h]; rfl
    · have hj : 0 < j := by
        rcases j with _ | j
        · simp at hr; omega
        · exact Nat.succ_pos _
      have hlt : r / 10 < 10 ^ j := by rw [Nat.pow_succ] at hr; omega
      obtain ⟨h1, h2⟩ := padD_eq j (r / 10) hj hlt
      rw [decDigits_ge h, List.length_append, List.length_singleton]
      refine ⟨by omega, ?_⟩
      rw [padD, ← h2, ← List.append_assoc]
      congr 3
      omega
theorem decDigits_split : ∀ (j x : Nat), 10 ^ j ≤ x → decDigits x = decDigits (x / 10 ^ j) ++ padD j (x % 10 ^ j)
  | 0, x, _ => by simp [padD]
  | j+1, x, h => by
    have h10 : ¬ x < 10 := by
      have : 10 ^ 1 ≤ 10 ^ (j+1) := Nat.pow_le_pow_right (by decide) (by omega)
      omega
    have hx : 10 ^ j ≤ x / 10 := by rw [Nat.pow_succ] at h; omega
    rw [decDigits_ge h10, decDigits_split j (x / 10) hx, padD, Nat.div_div_eq_div_mul, Nat.pow_succ, Nat.mul_comm 10, List.append_assoc]
    have e1 : x % (10 ^ j * 10) / 10 = x / 10 % 10 ^ j := by rw [Nat.mul_comm, Nat.mod_mul_right_div_self]
    have e2 : x % (10 ^ j * 10) % 10 = x % 10 := Nat.mod_mul_left_mod _ _ _
    rw [e1, e2]
/-- the numeral, but nothing for 0 -/
def txN (x : Nat) : List UInt8 := if x = 0 then [] else decDigits x
/-- the text of a number -/
theorem txN_step {x : Nat} (hx : 0 < x) : txN x = txN (x / 1000000000) ++ (if x / 1000000000 = 0 then decDigits (x % 1000000000) else List.replicate (9 - (decDigits (x % 1000000000)).length) 48 ++ decDigits (x % 1000000000)) := by
  have hne : x ≠ 0 := by omega
  by_cases h : x / 1000000000 = 0
  · rw [if_pos h, h]
    have : x % 1000000000 = x := Nat.mod_eq_of_lt (by omega)
    rw [this]
    simp [txN, hne]
  · rw [if_neg h]
    obtain ⟨_, h2⟩ := padD_eq 9 (x % 1000000000) (by decide) (Nat.mod_lt _ (by decide))
    rw [h2]
    have := decDigits_split 9 x (by show 1000000000 ≤ x; omega)
    simp only [txN, hne, h, if_false]
    exact this
theorem txN_len_le {x : Nat} (hx : 0 < x) : (decDigits (x % 1000000000)).length ≤ 9 := (padD_eq 9 (x % 1000000000) (by decide) (Nat.mod_lt _ (by decide))).1
theorem txN_length : ∀ (j x : Nat), x < 10 ^ j → (txN x).length ≤ j
  | 0, x, h => by have : x = 0 := by simpa using h
                  subst this; simp [txN]
  | j+1, x, h => by
    rcases Nat.eq_zero_or_pos x with h0 | h0
    · subst h0; simp [txN]
    · have h1 : x ≠ 0 := by omega
      have := (padD_eq (j+1) x (by omega) h).1
      simpa [txN, h1] using this
end Go.Proofs.YtalodfjplegibaaGreatDoor
