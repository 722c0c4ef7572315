/- Package ratios: quick bounds of a logarithm. -/
import Derived.Test.YtbaojmfkjpnfhaaGreatDoorBase
import Derived.Test.YtbaojmfkjpnfhaaGreatDoorMixA
import Derived.Test.YtbaojmfkjpnfhaaGreatDoorShelf
namespace Go.Proofs.YtbaojmfkjpnfhaaGreatDoor
set_option linter.unusedSimpArgs false
open Go.RowKit
set_option linter.unusedVariables false

theorem sq_lt {a : Nat} (h : a < W64) : a * a / 18446744073709551616 < W64 := by
  rw [Nat.div_lt_iff_lt_mul (by decide)]
  exact Nat.mul_lt_mul'' h h
theorem ret_pair {k1 k2 : IntKind} {a b c d : Int} (h1 : a = c) (h2 : b = d) : Ending.returned (.tuple #[.int k1 a, .int k2 b]) = .returned (.tuple #[.int k1 c, .int k2 d]) := by rw [h1, h2]
theorem shl_fit {s j : Nat} (h : s < 2 ^ (6 + j)) (hj : j ≤ 28) : IntKind.u64.wrap ((s : Int) * 2 ^ (28 - j)) = ((s * 2 ^ (28 - j) : Nat) : Int) := by
  have e : (s : Int) * 2 ^ (28 - j) = ((s * 2 ^ (28 - j) : Nat) : Int) := by rw [Int.natCast_mul, Int.natCast_pow]; rfl
  have h1 : s * 2 ^ (28 - j) < 2 ^ (6 + j) * 2 ^ (28 - j) := Nat.mul_lt_mul_of_pos_right h (Nat.pow_pos (by decide))
  rw [← Nat.pow_add, show 6 + j + (28 - j) = 34 by omega] at h1
  rw [e]
  generalize s * 2 ^ (28 - j) = z at *
  rw [IntKind.wrap_u64]; omega
theorem shl_fit1 {s j : Nat} (h : s < 2 ^ (6 + j)) (hj : j ≤ 28) : IntKind.u64.wrap (((s : Int) + 1) * 2 ^ (28 - j)) = (((s + 1) * 2 ^ (28 - j) : Nat) : Int) := by
  have e : ((s : Int) + 1) * 2 ^ (28 - j) = (((s + 1) * 2 ^ (28 - j) : Nat) : Int) := by rw [Int.natCast_mul, Int.natCast_pow]; rfl
  have h1 : (s + 1) * 2 ^ (28 - j) ≤ 2 ^ (6 + j) * 2 ^ (28 - j) := Nat.mul_le_mul_right _ h
  rw [← Nat.pow_add, show 6 + j + (28 - j) = 34 by omega] at h1
  rw [e]
  generalize (s + 1) * 2 ^ (28 - j) = z at *
  rw [IntKind.wrap_u64]; omega
theorem oru64 (a b : Nat) (ha : a < 18446744073709551616) (hb : b < 18446744073709551616) : bits .or .u64 (a : Int) (b : Int) = ((a ||| b : Nat) : Int) := by
  have hx : a ||| b < 2 ^ 64 := Nat.or_lt_two_pow (by omega) (by omega)
  have e : ∀ x : Nat, x < 18446744073709551616 → (BitVec.ofInt 64 (x : Int)).toNat = x := fun x h => by
    rw [BitVec.ofInt_natCast, BitVec.toNat_ofNat]; exact Nat.mod_eq_of_lt h
  show IntKind.u64.wrap ((BitVec.ofInt 64 (a : Int) ||| BitVec.ofInt 64 (b : Int)).toNat : Int) = _
  rw [BitVec.toNat_or, e a ha, e b hb, IntKind.wrap_u64]
  omega
theorem or_bit {x y : Nat} (hx : x < W63) (hy : y < W64) : bits .or .u64 ((x : Int) * 2) ((y : Int) / 9223372036854775808) = ((2 * x + y / W63 : Nat) : Int) := by
  have e0 : (x : Int) * 2 = ((x * 2 : Nat) : Int) := by omega
  have e1 : (y : Int) / 9223372036854775808 = ((y / W63 : Nat) : Int) := by unfold W63; omega
  have h1 : y / W63 < 2 ^ 1 := by unfold W63 W64 at *; omega
  have h2 : x * 2 < 18446744073709551616 := by unfold W63 at hx; omega
  rw [e0, e1, oru64 _ _ h2 (by omega), Nat.or_comm, or_add 1 _ _ h1 (Nat.dvd_mul_left _ _)]
  congr 1; omega
theorem or_zero {s : Nat} (hs : s < 17179869184) : bits .or .u64 ((s : Int) * 2) 0 = ((2 * s : Nat) : Int) := by
  have e0 : (s : Int) * 2 = ((s * 2 : Nat) : Int) := by omega
  have h := oru64 (s * 2) 0 (by omega) (by omega)
  rw [e0]
  have h0 : ((0 : Nat) : Int) = 0 := rfl
  rw [h0] at h
  rw [h, Nat.or_zero]
  congr 1; omega
theorem or_one {s : Nat} (hs : s < 17179869184) : bits .or .u64 ((s : Int) * 2) 1 = ((2 * s + 1 : Nat) : Int) := by
  have e0 : (s : Int) * 2 = ((s * 2 : Nat) : Int) := by omega
  have h := oru64 (s * 2) 1 (by omega) (by omega)
  rw [e0]
  have h0 : ((1 : Nat) : Int) = 1 := rfl
  rw [h0] at h
  rw [h, Nat.or_comm, or_add 1 1 _ (by decide) (Nat.dvd_mul_left _ _)]
  congr 1; omega
theorem shl1_wrap (v : Nat) : IntKind.u64.wrap ((v : Int) * 2) = ((2 * v % W64 : Nat) : Int) := by
  rw [IntKind.wrap_u64]; unfold W64; omega
theorem int_eq64 {k : IntKind} {a b : Int} (h : a = b) : Value.int k a = .int k b := by rw [h]

/-- as qk, the test for a power of two and the number of bits being given -/
def qkc (c : Bool) (n k : Nat) : Nat × Nat :=
  if c = true then (k * 268435456, k * 268435456) else qloop 28 (n * 2 ^ (63 - k)) (n * 2 ^ (63 - k)) k

end Go.Proofs.YtbaojmfkjpnfhaaGreatDoor
