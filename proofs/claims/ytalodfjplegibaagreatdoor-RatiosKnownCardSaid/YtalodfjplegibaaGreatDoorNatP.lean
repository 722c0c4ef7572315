/- Plain law: numerals to numbers. No program in sight. -/
import Derived.Test.YtalodfjplegibaaGreatDoorNatT
import Derived.Lib.ParseIntBCases
import Derived.Lib.SlTrimSet
namespace Go.Proofs.YtalodfjplegibaaGreatDoor
set_option linter.unusedSimpArgs false
open Go.Lib
set_option linter.unusedVariables false

def isDig (b : UInt8) : Bool := decide (48 ≤ b.toNat) && decide (b.toNat ≤ 57)
/-- the number that is spelt, behind v -/
def numV (v : Nat) (l : List UInt8) : Nat := l.foldl (fun v b => v * 10 + (b.toNat - 48)) v
theorem numV_nil (v : Nat) : numV v [] = v := by unfold numV; rw [List.foldl_nil]
theorem numV_cons (v : Nat) (b : UInt8) (l : List UInt8) : numV v (b :: l) = numV (v * 10 + (b.toNat - 48)) l := by unfold numV; rw [List.foldl_cons]
theorem numV_append (v : Nat) (l m : List UInt8) : numV v (l ++ m) = numV (numV v l) m := by unfold numV; rw [List.foldl_append]
theorem numV_eq : ∀ (l : List UInt8) (v : Nat), numV v l = v * 10 ^ l.length + numV 0 l
  | [], v => by simp [numV]
  | b :: l, v => by
    rw [numV_cons, numV_cons, numV_eq l, numV_eq l (0 * 10 + (b.toNat - 48)), List.length_cons, Nat.pow_succ, Nat.add_mul, Nat.zero_mul, Nat.zero_add, Nat.add_assoc]
    congr 1
    rw [Nat.mul_assoc, Nat.mul_comm 10]
theorem isDig_iff {b : UInt8} : isDig b = true ↔ 48 ≤ b.toNat ∧ b.toNat ≤ 57 := by unfold isDig; rw [Bool.and_eq_true, decide_eq_true_eq, decide_eq_true_eq]
theorem numV_lt : ∀ (l : List UInt8), l.all isDig = true → numV 0 l < 10 ^ l.length
  | [], _ => by simp [numV]
  | b :: l, h => by
    rw [List.all_cons, Bool.and_eq_true] at h
    have h1 := isDig_iff.1 h.1
    have h2 := numV_lt l h.2
    rw [numV_cons, numV_eq, List.length_cons, Nat.pow_succ]
    have h3 : (0 * 10 + (b.toNat - 48)) * 10 ^ l.length ≤ 9 * 10 ^ l.length := Nat.mul_le_mul_right _ (by omega)
    omega
theorem parseM_ok : ∀ (l : List UInt8) (v : Nat), l.all isDig = true → v * 10 ^ l.length + 10 ^ l.length ≤ 1000000000000000000 → parseUintM 18446744073709551615 v l = .ok (numV v l)
  | [], v, _, _ => rfl
  | b :: l, v, h, hb => by
    rw [List.all_cons, Bool.and_eq_true] at h
    have h1 := isDig_iff.1 h.1
    have hp : 0 < 10 ^ l.length := Nat.pow_pos (by decide)
    rw [List.length_cons, Nat.pow_succ] at hb
    have hv : v * 10 + 10 ≤ 1000000000000000000 := by
      have k1 : (v * 10 + 10) * 1 ≤ (v * 10 + 10) * 10 ^ l.length := Nat.mul_le_mul_left _ hp
      have k2 : (v * 10 + 10) * 10 ^ l.length = v * (10 ^ l.length * 10) + 10 ^ l.length * 10 := by
        rw [Nat.add_mul, Nat.mul_assoc, Nat.mul_comm 10]
      omega
    rw [parseUintM, if_pos h1, if_neg (by omega), if_neg (by omega), numV_cons]
    refine parseM_ok l _ h.2 ?_
    have k3 : (v * 10 + (b.toNat - 48)) * 10 ^ l.length + 10 ^ l.length ≤ v * (10 ^ l.length * 10) + 10 ^ l.length * 10 := by
      have k4 : (v * 10 + (b.toNat - 48)) * 10 ^ l.length + 10 ^ l.length = (v * 10 + (b.toNat - 48) + 1) * 10 ^ l.length := by rw [Nat.add_mul _ 1, Nat.one_mul]
      have k5 : v * (10 ^ l.length * 10) + 10 ^ l.length * 10 = (v * 10 + 10) * 10 ^ l.length := by rw [Nat.add_mul, Nat.mul_assoc, Nat.mul_comm 10]
      rw [k4, k5]
      exact Nat.mul_le_mul_right _ (by omega)
    omega
theorem parse_ok {l : List UInt8} (h : l.all isDig = true) (h0 : l ≠ []) (h9 : l.length ≤ 9) : parseUintB 64 l = .ok (numV 0 l) := by
  have e : 2 ^ 64 - 1 = 18446744073709551615 := by decide
  unfold parseUintB
  rw [if_neg h0, e]
  refine parseM_ok l 0 h ?_
  have : 10 ^ l.length ≤ 10 ^ 9 := Nat.pow_le_pow_right (by decide) h9
  have e9 : 10 ^ 9 = 1000000000 := by decide
  omega
theorem dig_byte {d : Nat} (h : d < 10) : (UInt8.ofNat (48 + d)).toNat = 48 + d := by
  rw [UInt8.toNat_ofNat']
  omega
theorem decDigits_all (x : Nat) : (decDigits x).all isDig = true := by
  induction x using Nat.strongRecOn with
  | _ x ih =>
    by_cases h : x < 10
    · rw [decDigits_lt h, List.all_cons, List.all_nil, Bool.and_true, isDig_iff, dig_byte h]; omega
    · rw [decDigits_ge h, List.all_append, ih _ (by omega), List.all_cons, List.all_nil, Bool.and_true, Bool.true_and, isDig_iff, dig_byte (Nat.mod_lt _ (by decide))]
      have := Nat.mod_lt x (show 10 > 0 by decide)
      omega
theorem numV_decDigits (x : Nat) : numV 0 (decDigits x) = x := by
  induction x using Nat.strongRecOn with
  | _ x ih =>
    by_cases h : x < 10
    · rw [decDigits_lt h, numV_cons, numV_nil, dig_byte h]; omega
    · rw [decDigits_ge h, numV_append, ih _ (by omega), numV_cons, numV_nil, dig_byte (Nat.mod_lt _ (by decide))]
      omega
theorem decDigits_head {x : Nat} : (decDigits x).head? = some 48 → x = 0 := by
  induction x using Nat.strongRecOn with
  | _ x ih =>
    by_cases h : x < 10
    · rw [decDigits_lt h, List.head?_cons]
      intro h1
      have h2 : UInt8.ofNat (48 + x) = 48 := by injection h1
      have h3 : (UInt8.ofNat (48 + x)).toNat = 48 := by rw [h2]; rfl
      rw [dig_byte h] at h3
      omega
    · rw [decDigits_ge h]
      intro h1
      have h2 := ih (x / 10) (by omega)
      rcases h3 : decDigits (x / 10) with _ | ⟨b, r⟩
      · rw [decDigits] at h3
        split at h3 <;> simp at h3
      · rw [h3] at h1 h2
        have h4 := h2 (by simpa using h1)
        omega
/-- what is read: the number, and the error -/
def parseS (l : List UInt8) : Nat × Int :=
  if 4900 < l.length then (0, 3) else if l = [] ∨ (1 < l.length ∧ l.head? = some 48) ∨ l.all isDig = false then (0, 6) else (numV 0 l, 0)
def digits : List UInt8 := [48, 49, 50, 51, 52, 53, 54, 55, 56, 57]
theorem digits_contains (b : UInt8) : digits.contains b = isDig b := by
  rw [Bool.eq_iff_iff, isDig_iff, List.contains_iff_mem]
  unfold digits
  simp only [List.mem_cons, List.not_mem_nil, or_false]
  have e : ∀ k : UInt8, b = k ↔ b.toNat = k.toNat := fun k => UInt8.toNat_inj.symm
  simp only [e]
  simp
  omega
theorem mem_dropWhile {p : UInt8 → Bool} : ∀ {l : List UInt8} {b : UInt8}, b ∈ l → p b = true ∨ b ∈ l.dropWhile p
  | a :: l, b, h => by
    rw [List.dropWhile_cons]
    split
    · rename_i ha
      rcases List.mem_cons.1 h with rfl | h
      · exact .inl ha
      · exact mem_dropWhile h
    · exact .inr h
theorem dropWhile_nil {p : UInt8 → Bool} : ∀ {l : List UInt8}, l.dropWhile p = [] ↔ ∀ b ∈ l, p b = true
  | [] => by simp
  | a :: l => by
    rw [List.dropWhile_cons]
    split
    · rename_i ha
      rw [dropWhile_nil, List.forall_mem_cons]
      exact ⟨fun h => ⟨ha, h⟩, fun h => h.2⟩
    · rename_i ha
      exact ⟨fun h => (by cases h), fun h => absurd (h a (by simp)) ha⟩
theorem trim_digits (l : List UInt8) : trimS l digits = [] ↔ l.all isDig = true := by
  have e : (fun b => digits.contains b) = isDig := funext digits_contains
  unfold trimS trimLeftS trimRightS
  rw [e, dropWhile_nil, List.all_eq_true]
  constructor
  · intro h b hb
    rcases mem_dropWhile (p := isDig) (List.mem_reverse.2 hb) with h1 | h1
    · exact h1
    · exact h b (List.mem_reverse.2 h1)
  · intro h b hb
    have h1 := (List.dropWhile_sublist isDig).subset (List.mem_reverse.1 hb)
    exact h b (List.mem_reverse.1 h1)
/-- Parse of Text -/
theorem parse_text {x : Nat} (h : (decDigits x).length ≤ 4900) : parseS (decDigits x) = (x, 0) := by
  unfold parseS
  rw [if_neg (by omega), if_neg, numV_decDigits]
  rintro (h1 | ⟨h1, h2⟩ | h1)
  · rw [decDigits] at h1
    split at h1 <;> simp at h1
  · have h3 := decDigits_head h2
    subst h3
    rw [decDigits_lt (by decide)] at h1
    exact absurd h1 (by decide)
  · rw [decDigits_all] at h1
    cases h1
theorem ten_pow : 10 ^ 4900 ≤ LB ^ 512 := of_decide_eq_true (by kernel_rfl)
/-- what is read is not too long -/
theorem numV_limbs {l : List UInt8} (h : l.all isDig = true) (hl : l.length ≤ 4900) : (limbs (numV 0 l)).length ≤ 512 := by
  refine limbs_len_le (Nat.lt_of_lt_of_le (numV_lt l h) (Nat.le_trans (Nat.pow_le_pow_right (by decide) hl) ten_pow))
/-- what is read: limbs, and the error -/
def ParseL (l : List UInt8) : List Nat := limbs (parseS l).1
theorem parseS_long {l : List UInt8} (h : 4900 < l.length) : parseS l = (0, 3) := by unfold parseS; rw [if_pos h]
theorem parseS_form {l : List UInt8} (h0 : ¬ 4900 < l.length) (h : l = [] ∨ (1 < l.length ∧ l.head? = some 48) ∨ l.all isDig = false) : parseS l = (0, 6) := by unfold parseS; rw [if_neg h0, if_pos h]
theorem parseS_ok {l : List UInt8} (h0 : ¬ 4900 < l.length) (h1 : l ≠ []) (h2 : ¬ (1 < l.length ∧ l.head? = some 48)) (h3 : l.all isDig = true) : parseS l = (numV 0 l, 0) := by
  unfold parseS
  rw [if_neg h0, if_neg]
  rintro (h | h | h)
  · exact h1 h
  · exact h2 h
  · rw [h3] at h; cases h
theorem parseS_len (l : List UInt8) : (limbs (parseS l).1).length ≤ 512 := by
  by_cases h0 : 4900 < l.length
  · rw [parseS_long h0]; simp [limbs_zero]
  · by_cases h : l = [] ∨ (1 < l.length ∧ l.head? = some 48) ∨ l.all isDig = false
    · rw [parseS_form h0 h]; simp [limbs_zero]
    · simp only [not_or, Bool.not_eq_false] at h
      rw [parseS_ok h0 h.1 h.2.1 h.2.2]
      exact numV_limbs h.2.2 (by omega)
end Go.Proofs.YtalodfjplegibaaGreatDoor
