/- Package ratios: numbers of 128 bits. Package ratios: terms in memory; check. -/
import Derived.Test.YtalodfjplegibaaGreatDoorMixQ
import Derived.Laws.Externs
import Derived.Test.YtalodfjplegibaaGreatDoorMixG
namespace Go.Proofs.YtalodfjplegibaaGreatDoor
set_option linter.unusedSimpArgs false
open Go.RowKit
set_option linter.unusedVariables false

theorem add64_at (x y : Nat) (w : World) : (callFunc 103 #[.int .u64 x, .int .u64 y, .int .u64 0]).run Tryz.prog w =
    .ok (.value (.tuple #[.int .u64 (((x + y) % 18446744073709551616 : Nat) : Int), .int .u64 (((x + y) / 18446744073709551616 : Nat) : Int)])) w := by
  rw [run_callFunc_extern Tryz.func103 (by kernel_rfl) (by kernel_rfl) (by kernel_rfl) (e := add64Entry) (by kernel_rfl), run_add64 x y 0 (by omega) (by omega) (by omega) (by omega)]
  simp only [Result.andThen]
  congr 5 <;> omega

/-- a number of 128 bits as a value -/
def lv128 (V : Nat) : Value := .agg #[.int .u64 (V / W64 : Nat), .int .u64 (V % W64 : Nat)]
theorem plus128 {h l x y : Nat} (hl : l < W64) (hf : h * W64 + l + x * y < W64 * W64) : IntKind.u64.wrap (IntKind.u64.wrap ((h : Int) + ((x * y / W64 : Nat) : Int)) + (((l + x * y % W64) / W64 : Nat) : Int)) = (((h * W64 + l + x * y) / W64 : Nat) : Int) ∧ (l + x * y % W64) % W64 = (h * W64 + l + x * y) % W64 := by
  have e := Nat.div_add_mod (x * y) W64
  generalize x * y = p at *
  generalize p / W64 = ph at *
  generalize hpl : p % W64 = pl at *
  have hp2 : pl < W64 := by rw [← hpl]; exact Nat.mod_lt _ (by decide)
  have h1 : h + ph < W64 := by
    have : (h + ph) * W64 < W64 * W64 := by rw [Nat.add_mul, Nat.mul_comm ph]; omega
    exact Nat.lt_of_mul_lt_mul_right this
  have h2 : (h * W64 + l + p) = (h + ph) * W64 + (l + pl) := by rw [← e, Nat.add_mul, Nat.mul_comm ph]; omega
  rw [h2] at hf ⊢
  have h3 : ((h + ph) * W64 + (l + pl)) / W64 = h + ph + (l + pl) / W64 := by rw [Nat.mul_comm, Nat.mul_add_div (by decide)]
  have h4 : ((h + ph) * W64 + (l + pl)) % W64 = (l + pl) % W64 := by rw [Nat.mul_comm, Nat.mul_add_mod]
  have h5 : h + ph + (l + pl) / W64 < W64 := by
    rw [← h3]
    exact (Nat.div_lt_iff_lt_mul (by decide)).2 hf
  rw [h3, h4]
  refine ⟨?_, rfl⟩
  generalize (l + pl) / W64 = c at *
  unfold W64 at *
  have w1 : IntKind.u64.wrap ((h : Int) + (ph : Int)) = (h : Int) + (ph : Int) := by rw [IntKind.wrap_u64]; omega
  rw [w1, IntKind.wrap_u64]
  omega

set_option maxHeartbeats 800000 in
set_option maxRecDepth 100000 in
theorem lplus_any (V x y : Nat) (w : World) (hV : V + x * y < W64 * W64) (hx : x < W64) (hy : y < W64) :
    Calls Tryz.prog 75 #[lv128 V, .int .u64 x, .int .u64 y] w fun e w' => e = .returned (lv128 (V + x * y)) ∧ Below w.heap.size w w' := by
  unfold lv128
  have hM := Tryz.bits_Mul64 x y hx hy
  have hl : V % W64 < W64 := Nat.mod_lt _ (by decide)
  have hdm : V / W64 * W64 + V % W64 = V := by rw [Nat.mul_comm]; exact Nat.div_add_mod V W64
  have hp := plus128 (h := V / W64) (l := V % W64) (x := x) (y := y) hl (by rw [hdm]; exact hV)
  rw [hdm] at hp
  have e64 : W64 = 18446744073709551616 := rfl
  have hA := add64_at (V % W64) (x * y % W64)
  rw [← e64] at hA hM
  generalize V / W64 = h at *
  generalize V % W64 = l at *
  generalize x * y / W64 = ph at *
  generalize x * y % W64 = pl at *
  generalize (V + x * y) / W64 = rh at *
  generalize (V + x * y) % W64 = rl at *
  rw [hp.2] at hA
  generalize (l + pl) / W64 = c at *
  have HM : Sl _ := ⟨hM⟩
  have HP : Sl _ := ⟨hp.1⟩
  have f5 := hp.1
  have HA : Sl _ := ⟨hA⟩
  have hB : ∀ v u : Array Value, Blk ((w.alloc (.cells u 114)).alloc (.cells v 114)) (w.heap.size + 1) 114 v := fun v u => by
    have h := Blk.new (w.alloc (.cells u 114)) 114 v
    have e1 : (w.alloc (.cells u 114)).heap.size = w.heap.size + 1 := by simp
    rw [e1] at h
    exact h
  have hu : ∀ v u : Array Value, Below w.heap.size w ((w.alloc (.cells u 114)).alloc (.cells v 114)) := fun v u => ((Below.refl _ _).alloc (Nat.le_refl _) _).alloc (by simp) _
  have HB : Sl _ := ⟨hB⟩
  have HU : Sl _ := ⟨hu⟩
  clear hB hu
  clear hM hV hl hdm hp e64 hx hy
  go_enter Tryz.func75, Tryz.ntmps75
  go_wp2_with fail
  refine (HM.out _).mono ?_; rintro e w' ⟨rfl, rfl⟩
  go_wp2_with fail
  refine bodyPost_ret (results_cell_row rfl _ _ (w.heap.size + 1) _ _ _ _ rfl (HB.out _ _) Tryz.underlying114 rfl (by kernel_rfl)) rfl ?_
  exact ⟨rfl, HU.out _ _⟩

theorem lt128 {V U : Nat} : U < V ↔ U / W64 < V / W64 ∨ U / W64 = V / W64 ∧ U % W64 < V % W64 := by unfold W64; omega
set_option maxHeartbeats 800000 in
set_option maxRecDepth 100000 in
theorem lover_any (V U : Nat) (w : World) :
    Calls Tryz.prog 76 #[lv128 V, lv128 U] w fun e w' => e = .returned (.bool (decide (U < V))) ∧ Below w.heap.size w w' := by
  unfold lv128
  have hlt := lt128 (V := V) (U := U)
  have hu : Below w.heap.size w ((w.alloc (.cells #[.int .u64 (V / W64 : Nat), .int .u64 (V % W64 : Nat)] 114)).alloc (.cells #[.int .u64 (U / W64 : Nat), .int .u64 (U % W64 : Nat)] 114)) := ((Below.refl _ _).alloc (Nat.le_refl _) _).alloc (by simp) _
  generalize V / W64 = h at *
  generalize V % W64 = l at *
  generalize U / W64 = g at *
  generalize U % W64 = m at *
  have hc : g < h ∧ decide (U < V) = true ∨ g = h ∧ m < l ∧ decide (U < V) = true ∨ g = h ∧ ¬ m < l ∧ decide (U < V) = false ∨ h < g ∧ decide (U < V) = false := by
    rw [decide_eq_true_eq, decide_eq_false_iff_not, hlt]; omega
  clear hlt
  generalize decide (U < V) = b at *
  rcases hc with ⟨h1, rfl⟩ | ⟨rfl, h2, rfl⟩ | ⟨rfl, h2, rfl⟩ | ⟨h1, rfl⟩
  · go_enter Tryz.func76, Tryz.ntmps76
    go_wp2_with fail
    go_ret
    exact ⟨rfl, hu⟩
  · go_enter Tryz.func76, Tryz.ntmps76
    go_wp2_with fail
    go_ret
    exact ⟨by first | rfl | simp, hu⟩
  · have h3 : l ≤ m := Nat.le_of_not_lt h2
    clear h2
    go_enter Tryz.func76, Tryz.ntmps76
    go_wp2_with fail
    go_ret
    exact ⟨by first | rfl | (simp; try omega), hu⟩
  · have h3 : ((h : Int) == (g : Int)) = false := by rw [beq_eq_false_iff_ne]; omega
    go_enter Tryz.func76, Tryz.ntmps76
    go_wp2_with fail
    go_ret
    exact ⟨by first | rfl | (simp; try omega), hu⟩
end Go.Proofs.YtalodfjplegibaaGreatDoor
namespace Go.Proofs.YtalodfjplegibaaGreatDoor
set_option linter.unusedSimpArgs false
open Go.RowKit
set_option linter.unusedVariables false

def pair128 (V U : Nat) : Array Value := #[.int .u64 (V / W64 : Nat), .int .u64 (V % W64 : Nat), .int .u64 (U / W64 : Nat), .int .u64 (U % W64 : Nat)]
theorem gsum_snoc (n : Nat) (k : Int) : ∀ l : List (Nat × Int), gsum (l ++ [(n, k)]) = if 0 ≤ k then (((gsum l).1.1 + (qk n).1 * k.natAbs, (gsum l).1.2 + (qk n).2 * k.natAbs), (gsum l).2) else ((gsum l).1, ((gsum l).2.1 + (qk n).1 * k.natAbs, (gsum l).2.2 + (qk n).2 * k.natAbs))
  | [] => by simp [gsum]
  | (m, j) :: l => by
    rw [List.cons_append, gsum, gsum_snoc n k l, gsum]
    split <;> split <;> simp only [] <;> (try split) <;> simp [Nat.add_comm, Nat.add_left_comm, Nat.add_assoc]
/-- quick's bounds of a number are qk's, wherever it is called -/
def QK (n : Nat) : Prop := ∀ W : World, Calls Tryz.prog 74 #[.int .i64 n] W fun e w' => e = .returned (.tuple #[.int .u64 ((qk n).1 : Nat), .int .u64 ((qk n).2 : Nat)]) ∧ ∃ m, w' = W.drewN m
structure Good (l : List (Nat × Int)) : Prop where
  q : ∀ x ∈ l, QK x.1
  k : ∀ x ∈ l, x.2.natAbs < 1000000000000000000
  b : ∀ x ∈ l, (qk x.1).1 < 1000000000000 ∧ (qk x.1).2 < 1000000000000

end Go.Proofs.YtalodfjplegibaaGreatDoor
