/- Plain facts on limbs, second part: differences, division by a limb, bits. -/
import Derived.Test.YtgjbaamhpapeeaaGreatDoorNatL
namespace Go.Proofs.YtgjbaamhpapeeaaGreatDoor
set_option linter.unusedSimpArgs false
set_option linter.unusedVariables false
/-- a difference under way: o the limbs written, i of them, owe what is owed -/
theorem minus_step {V A B x y c o i : Nat} (hv : V + B = A + o * LB ^ i) (ho : o ≤ 1) (hx : x < LB) (hy : y < LB) (hc : c < LB) (o' : Nat) (ho' : o' ≤ 1) (hd : c + y + o = x + o' * LB) :
    (V + LB ^ i * c) + (B + LB ^ i * y) = (A + LB ^ i * x) + o' * LB ^ (i+1) := by
  have e : LB ^ i * (c + y + o) = LB ^ i * (x + o' * LB) := by rw [hd]
  simp only [Nat.mul_add] at e
  have e1 : o' * LB ^ (i+1) = LB ^ i * (o' * LB) := by rw [Nat.pow_succ, Nat.mul_comm, Nat.mul_assoc, Nat.mul_comm LB]
  have e2 : o * LB ^ i = LB ^ i * o := Nat.mul_comm _ _
  rw [e1]; rw [e2] at hv
  omega
/-- the limb and what is owed -/
theorem minus_limb (x y o : Nat) (hx : x < LB) (hy : y < LB) (ho : o ≤ 1) :
    ∃ c o' : Nat, c < LB ∧ o' ≤ 1 ∧ c + y + o = x + o' * LB ∧ (c : Int) = ((x : Int) - o - y) % 4294967296 ∧ (o' : Int) = (((x : Int) - o - y) % 18446744073709551616) / 9223372036854775808 := by
  unfold LB at *
  by_cases h : x < y + o
  · exact ⟨x + 4294967296 - o - y, 1, by omega, by omega, by omega, by omega, by omega⟩
  · exact ⟨x - o - y, 0, by omega, by omega, by omega, by omega, by omega⟩

/-- division by a limb under way: from the top down to place k -/
theorem short_step {l q : List Nat} {k d r : Nat} (hd : 0 < d) (hk : k < l.length)
    (hv : valOf (l.drop (k+1)) = valOf q * d + r) (hr : r < d) :
    valOf (l.drop k) = valOf (((r * LB + l[k]?.getD 0) / d) :: q) * d + (r * LB + l[k]?.getD 0) % d := by
  rw [List.drop_eq_getElem_cons hk, List.getElem?_eq_getElem hk]
  show l[k] + LB * valOf (l.drop (k+1)) = ((r * LB + l[k]) / d + LB * valOf q) * d + (r * LB + l[k]) % d
  rw [hv, Nat.add_mul]
  have e := Nat.div_add_mod (r * LB + l[k]) d
  have e2 : (r * LB + l[k]) / d * d = d * ((r * LB + l[k]) / d) := Nat.mul_comm _ _
  have e3 : LB * (valOf q * d + r) = LB * valOf q * d + r * LB := by rw [Nat.mul_add, ← Nat.mul_assoc, Nat.mul_comm LB r]
  rw [e2, e3]
  omega
theorem short_lt {r x d : Nat} (hr : r < d) (hx : x < LB) : (r * LB + x) / d < LB := by
  refine Nat.div_lt_of_lt_mul ?_
  have : (r + 1) * LB ≤ d * LB := Nat.mul_le_mul_right _ hr
  rw [Nat.add_mul] at this
  omega
/-- the number of bits -/
def bitsN (n : Nat) : Nat := if n = 0 then 0 else Nat.log2 n + 1
theorem bitsN_lt (n : Nat) : n < 2 ^ bitsN n := by
  unfold bitsN; split
  · omega
  · exact Nat.lt_log2_self
theorem bitsN_le {n : Nat} (h : n ≠ 0) : 2 ^ (bitsN n - 1) ≤ n := by
  unfold bitsN; rw [if_neg h]; exact Nat.log2_self_le h
theorem bitsN_zero : bitsN 0 = 0 := by simp [bitsN]
theorem bitsN_unique {n k : Nat} (h1 : 2 ^ k ≤ n) (h2 : n < 2 ^ (k+1)) : bitsN n = k + 1 := by
  have h0 : n ≠ 0 := by have := Nat.two_pow_pos k; omega
  unfold bitsN; rw [if_neg h0]
  have := (Nat.log2_eq_iff h0).2 ⟨h1, h2⟩
  omega
theorem bitsN_le_iff {n k : Nat} : bitsN n ≤ k ↔ n < 2 ^ k := by
  constructor
  · intro h; exact Nat.lt_of_lt_of_le (bitsN_lt n) (Nat.pow_le_pow_right (by decide) h)
  · intro h
    by_cases h0 : n = 0
    · subst h0; simp [bitsN]
    · have h1 := bitsN_le h0
      have h2 : 2 ^ (bitsN n - 1) < 2 ^ k := Nat.lt_of_le_of_lt h1 h
      have h3 := (Nat.pow_lt_pow_iff_right (by decide)).1 h2
      omega
end Go.Proofs.YtgjbaamhpapeeaaGreatDoor
