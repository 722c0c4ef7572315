/- Plain law: numbers without common divisors are found in time. No program in sight. -/
import Derived.Test.YtcmofoggdchofaaDoorNatL
namespace Go.Proofs.YtcmofoggdchofaaDoor
set_option linter.unusedSimpArgs false
set_option linter.unusedVariables false

theorem log2_mul {a b : Nat} (ha : a ≠ 0) (hb : b ≠ 0) : a.log2 + b.log2 ≤ (a * b).log2 := by
  rw [Nat.le_log2 (Nat.mul_ne_zero ha hb), Nat.pow_add]
  exact Nat.mul_le_mul (Nat.log2_self_le ha) (Nat.log2_self_le hb)
theorem log2_pos {a : Nat} (h : 2 ≤ a) : 1 ≤ a.log2 := by rw [Nat.le_log2 (by omega)]; omega
/-- what is left to do: numbers that are found, numbers that wait -/
def mz (o w : List Nat) : Nat := (o.map fun n => 3 * n.log2).sum + (w.map fun n => 3 * n.log2 + 1).sum
theorem mz_one (o w : List Nat) : mz o w < mz o (w ++ [1]) := by
  unfold mz; rw [List.map_append, List.sum_append]; simp
theorem mz_move (o w : List Nat) (n : Nat) : mz (o ++ [n]) w < mz o (w ++ [n]) := by
  unfold mz; rw [List.map_append, List.map_append, List.sum_append, List.sum_append]; simp; omega
theorem mz_split (o1 o2 w : List Nat) {b n g : Nat} (hb : b ≠ 0) (hn : n ≠ 0) (hg : 2 ≤ g) (h1 : g ∣ b) (h2 : g ∣ n) : mz (o1 ++ o2) (w ++ [g, b / g, n / g]) < mz (o1 ++ b :: o2) (w ++ [n]) := by
  obtain ⟨c, rfl⟩ := h1
  obtain ⟨d, rfl⟩ := h2
  have hc : c ≠ 0 := fun h => hb (by rw [h, Nat.mul_zero])
  have hd : d ≠ 0 := fun h => hn (by rw [h, Nat.mul_zero])
  rw [Nat.mul_div_cancel_left _ (by omega), Nat.mul_div_cancel_left _ (by omega)]
  have k1 := log2_mul (a := g) (b := c) (by omega) hc
  have k2 := log2_mul (a := g) (b := d) (by omega) hd
  have k3 := log2_pos hg
  unfold mz
  simp only [List.map_append, List.sum_append, List.map_cons, List.map_nil, List.sum_cons, List.sum_nil]
  omega
end Go.Proofs.YtcmofoggdchofaaDoor
