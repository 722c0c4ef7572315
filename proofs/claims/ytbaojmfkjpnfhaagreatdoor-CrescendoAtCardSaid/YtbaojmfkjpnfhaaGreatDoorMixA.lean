/- Plain law: the quick bounds of logarithms, and what they say of the sign of a product. No program in sight. -/
import Derived.Test.YtbaojmfkjpnfhaaGreatDoorNatL
import Derived.Lib.BitFns
namespace Go.Proofs.YtbaojmfkjpnfhaaGreatDoor
set_option linter.unusedSimpArgs false
set_option linter.unusedVariables false

def W64 : Nat := 18446744073709551616
def W63 : Nat := 9223372036854775808
/-- one square: the next mantissas and the sum; none: it is not known whether the square is below 2 -/
def qstep (a b s : Nat) : Option (Nat × Nat × Nat) :=
  let p := a * a
  let q := b * b
  let bit := p / W64 / W63
  let x := if bit = 0 then (2 * p) / W64 % W64 else p / W64
  let v := if bit = 0 then 2 * q else q
  let z := (v / W64) % W64 + (if 0 < v % W64 then 1 else 0)
  if bit = q / W64 / W63 ∧ z ≠ W64 ∧ z ≠ 0 then some (x, z, 2 * s + bit) else none
def qloop : Nat → Nat → Nat → Nat → Nat × Nat
  | 0, _, _, s => (s, s + 1)
  | r+1, a, b, s => match qstep a b s with
    | none => (s * 2 ^ (r + 1), (s + 1) * 2 ^ (r + 1))
    | some (x, z, s') => qloop r x z s'
/-- quick: bounds of the logarithm of n, times 2^28 -/
def qk (n : Nat) : Nat × Nat :=
  if n = 2 ^ (Go.Lib.bitLen n - 1) then ((Go.Lib.bitLen n - 1) * 268435456, (Go.Lib.bitLen n - 1) * 268435456) else qloop 28 (n * 2 ^ (63 - (Go.Lib.bitLen n - 1))) (n * 2 ^ (63 - (Go.Lib.bitLen n - 1))) (Go.Lib.bitLen n - 1)
/-- both bounds of both sums of a product's logarithm: above 0 and below -/
def gsum : List (Nat × Int) → (Nat × Nat) × (Nat × Nat)
  | [] => ((0, 0), (0, 0))
  | (n, k) :: l =>
    let g := gsum l
    if 0 ≤ k then ((g.1.1 + (qk n).1 * k.natAbs, g.1.2 + (qk n).2 * k.natAbs), g.2) else (g.1, (g.2.1 + (qk n).1 * k.natAbs, g.2.2 + (qk n).2 * k.natAbs))
def guessG (g : (Nat × Nat) × (Nat × Nat)) : Option Int := if g.2.2 < g.1.1 then some 1 else if g.1.2 < g.2.1 then some (-1) else none
def guessF (l : List (Nat × Int)) : Option Int := guessG (gsum l)
theorem qk_24 : qk 24 = (1230766499, 1230766500) := by decide +kernel
theorem qk_8 : qk 8 = (805306368, 805306368) := by decide +kernel
theorem qk_2 : qk 2 = (268435456, 268435456) := by decide +kernel
theorem gsum_pos {n : Nat} {k : Int} {l : List (Nat × Int)} {a b : Nat} {g : (Nat × Nat) × (Nat × Nat)} (hk : 0 ≤ k) (hq : qk n = (a, b)) (hg : gsum l = g) : gsum ((n, k) :: l) = ((g.1.1 + a * k.natAbs, g.1.2 + b * k.natAbs), g.2) := by
  simp only [gsum, if_pos hk, hq, hg]
theorem gsum_neg {n : Nat} {k : Int} {l : List (Nat × Int)} {a b : Nat} {g : (Nat × Nat) × (Nat × Nat)} (hk : ¬ 0 ≤ k) (hq : qk n = (a, b)) (hg : gsum l = g) : gsum ((n, k) :: l) = (g.1, (g.2.1 + a * k.natAbs, g.2.2 + b * k.natAbs)) := by
  simp only [gsum, if_neg hk, hq, hg]
theorem guessG_up {a b c d : Nat} (h : d < a) : guessG ((a, b), (c, d)) = some 1 := by unfold guessG; rw [if_pos h]
theorem guessG_down {a b c d : Nat} (h : ¬ d < a) (h2 : b < c) : guessG ((a, b), (c, d)) = some (-1) := by unfold guessG; rw [if_neg h, if_pos h2]
/-- what the guess says of the numbers of a footage of 8/3, with 2 to the power of k: all signs are known, and only from k = -38 on the product is 1 or more -/
theorem guess_83 (k : Int) : guessF [(24, 24), (8, -24), (2, k)] = some (if -38 ≤ k then 1 else -1) := by
  unfold guessF
  have h1 : (0 : Int) ≤ 24 := by decide
  have h2 : ¬ (0 : Int) ≤ -24 := by decide
  have n1 : (24 : Int).natAbs = 24 := rfl
  have n2 : (-24 : Int).natAbs = 24 := rfl
  by_cases h : 0 ≤ k
  · have g := gsum_pos h1 qk_24 (gsum_neg h2 qk_8 (gsum_pos h qk_2 (show gsum [] = ((0, 0), (0, 0)) from rfl)))
    rw [g, n1, n2, if_pos (by omega)]
    exact guessG_up (by simp only []; omega)
  · have g := gsum_pos h1 qk_24 (gsum_neg h2 qk_8 (gsum_neg h qk_2 (show gsum [] = ((0, 0), (0, 0)) from rfl)))
    rw [g, n1, n2]
    have hn : (k.natAbs : Int) = -k := by omega
    generalize k.natAbs = j at *
    by_cases h3 : -38 ≤ k
    · rw [if_pos h3]
      exact guessG_up (by simp only []; omega)
    · rw [if_neg h3]
      exact guessG_down (by simp only []; omega) (by simp only []; omega)
theorem qloop_none {a b s j : Nat} (h : qstep a b s = none) (hj : j < 28) : qloop (28 - j) a b s = (s * 2 ^ (28 - j), (s + 1) * 2 ^ (28 - j)) := by
  obtain ⟨r, hr⟩ : ∃ r, 28 - j = r + 1 := ⟨27 - j, by omega⟩
  rw [hr]
  simp only [qloop, h]
theorem qloop_some {a b s j x z t : Nat} (h : qstep a b s = some (x, z, t)) (hj : j < 28) : qloop (28 - j) a b s = qloop (28 - (j + 1)) x z t := by
  obtain ⟨r, hr⟩ : ∃ r, 28 - j = r + 1 := ⟨27 - j, by omega⟩
  have hr2 : 28 - (j + 1) = r := by omega
  rw [hr, hr2]
  simp only [qloop, h]
section
variable {a b s x y z v : Nat}
theorem qstep_00 (hx : a * a / W64 = x) (hy : a * a % W64 = y) (hz : b * b / W64 = z) (hv : b * b % W64 = v) (h1 : x < W63) (h2 : z < W63) {t : Nat} (ht : 2 * z + v / W63 + (if 0 < 2 * v % W64 then 1 else 0) = t) :
    qstep a b s = if t ≠ W64 ∧ t ≠ 0 then some (2 * x + y / W63, t, 2 * s + 0) else none := by
  have e1 : a * a = x * W64 + y := by have := Nat.div_add_mod (a * a) W64; rw [hx, hy, Nat.mul_comm] at this; exact this.symm
  have e2 : b * b = z * W64 + v := by have := Nat.div_add_mod (b * b) W64; rw [hz, hv, Nat.mul_comm] at this; exact this.symm
  have b1 : x / W63 = 0 := Nat.div_eq_of_lt h1
  have b2 : z / W63 = 0 := Nat.div_eq_of_lt h2
  have ly : y < W64 := by rw [← hy]; exact Nat.mod_lt _ (by decide)
  have lv : v < W64 := by rw [← hv]; exact Nat.mod_lt _ (by decide)
  have f1 : 2 * (a * a) / W64 % W64 = 2 * x + y / W63 := by rw [e1]; unfold W64 W63 at *; omega
  have f2 : 2 * (b * b) / W64 % W64 = 2 * z + v / W63 := by rw [e2]; unfold W64 W63 at *; omega
  have f3 : 2 * (b * b) % W64 = 2 * v % W64 := by rw [e2]; unfold W64 W63 at *; omega
  unfold qstep
  simp only [hx, hz, b1, b2, if_true, f1, f2, f3, ht, true_and]
theorem qstep_11 (hx : a * a / W64 = x) (hz : b * b / W64 = z) (hv : b * b % W64 = v) (h1 : W63 ≤ x) (h2 : W63 ≤ z) (g1 : x < W64) (g2 : z < W64) {t : Nat} (ht : z + (if 0 < v then 1 else 0) = t) :
    qstep a b s = if t ≠ W64 ∧ t ≠ 0 then some (x, t, 2 * s + 1) else none := by
  have b1 : x / W63 = 1 := by unfold W64 W63 at *; omega
  have b2 : z / W63 = 1 := by unfold W64 W63 at *; omega
  have f2 : z % W64 = z := Nat.mod_eq_of_lt g2
  have h0 : ¬ (1 = 0) := by decide
  unfold qstep
  simp only [hx, hz, b1, b2, if_neg h0, f2, hv, ht, true_and]
theorem qstep_no (hx : a * a / W64 = x) (hz : b * b / W64 = z) (h : x / W63 ≠ z / W63) : qstep a b s = none := by
  unfold qstep
  simp only [hx, hz]
  rw [if_neg (fun h0 => h h0.1)]
end
end Go.Proofs.YtbaojmfkjpnfhaaGreatDoor
