/- The public functions on values that hold numbers; the law's divides returns true. -/
import Derived.Test.YtgjbaamhpapeeaaGreatDoorLawV
namespace Go.Proofs.YtgjbaamhpapeeaaGreatDoor
open Go.RowKit
set_option linter.unusedVariables false
set_option linter.unusedSimpArgs false

/-- a number and no error -/
def NRes (a : Nat) (e : Ending) (w : World) : Prop := ∃ x, e = .returned (.tuple #[x, .int .i64 0]) ∧ NV w x a
theorem NatRes.nres {a : Nat} {e : Ending} {w : World} (h : NatRes (limbs a) 0 e w) : NRes a e w := by
  obtain ⟨A, c, he, hk⟩ := h.arg rfl
  subst he
  exact ⟨_, rfl, A, c, rfl, hk⟩
def NRes2 (a b : Nat) (e : Ending) (w : World) : Prop := ∃ x y, e = .returned (.tuple #[x, y, .int .i64 0]) ∧ NV w x a ∧ NV w y b
theorem DivMod_nv (v u : Value) (a b : Nat) (w : World) (hv : NV w v a) (hu : NV w u b) (ha : (limbs a).length ≤ 512) (hb : (limbs b).length ≤ 512) (hs : b ≠ 0) :
    Calls Tryz.prog 30 #[v, u] w fun e w' => NRes2 (a / b) (a % b) e w' ∧ Below w.heap.size w w' := by
  obtain ⟨A, c, rfl, h1⟩ := hv
  obtain ⟨B, d, rfl, h2⟩ := hu
  have C := DivMod_any A B _ _ c d _ _ w h1 h2
  rw [divS_ok ha hb hs] at C
  refine C.mono fun e w' h => ⟨?_, h.2⟩
  obtain ⟨A1, c1, B1, d1, rfl, g1, g2⟩ := h.1
  exact ⟨_, _, rfl, ⟨A1, c1, rfl, g1⟩, B1, d1, rfl, g2⟩
theorem DivMod_none (v u : Value) (a : Nat) (w : World) (hv : NV w v a) (hu : NV w u 0) (ha : (limbs a).length ≤ 512) :
    Calls Tryz.prog 30 #[v, u] w fun e w' => (∃ x y, e = .returned (.tuple #[x, y, .int .i64 4])) ∧ Below w.heap.size w w' := by
  obtain ⟨A, c, rfl, h1⟩ := hv
  obtain ⟨B, d, rfl, h2⟩ := hu
  have C := DivMod_any A B _ _ c d _ _ w h1 h2
  rw [divS_none ha (by rw [limbs_zero]; simp) rfl] at C
  refine C.mono fun e w' h => ⟨?_, h.2⟩
  obtain ⟨A1, c1, B1, d1, rfl, g1, g2⟩ := h.1
  exact ⟨_, _, rfl⟩
theorem same_nv (v u : Value) (a : Nat) (w : World) (hv : NV w v a) (hu : NV w u a) (ha : (limbs a).length ≤ 512) :
    Calls Tryz.prog 23 #[v, u] w fun e w' => e = .returned (.bool true) ∧ Below w.heap.size w w' := by
  obtain ⟨A, c, rfl, h1⟩ := hv
  obtain ⟨B, d, rfl, h2⟩ := hu
  exact same_self A B c d _ w h1.1 h2.1 ha
theorem Of1_nv (w : World) :
    Calls Tryz.prog 31 #[.int .u64 1] w fun e w' => (∃ x, e = .returned x ∧ NV w' x 1) ∧ Below w.heap.size w w' := by
  have C := Of_any 1 w (by decide)
  simp only [Int.natCast_one] at C
  refine C.mono fun e w' h => ⟨?_, h.2⟩
  obtain ⟨A, c, rfl, h1, h2, h3⟩ := h.1
  exact ⟨_, rfl, A, c, rfl, h3, h1, h2⟩

theorem len_one : (limbs 1).length ≤ 1 := limbs_len_le (k := 1) (by decide)
theorem more_div {N C D : Nat} (hD : D ≠ 0) : (N % D + C % D < D → (N + C % D) / D = N / D ∧ (N + C % D) % D = N % D + C % D) ∧ (¬ N % D + C % D < D → (N + C % D) / D = N / D + 1 ∧ (N + C % D) % D = N % D + C % D - D) := by
  have h1 := Nat.div_add_mod N D
  have h2 := Nat.mod_lt C (Nat.pos_of_ne_zero hD)
  have h3 := Nat.mod_lt N (Nat.pos_of_ne_zero hD)
  have e : N + C % D = N / D * D + (N % D + C % D) := by rw [Nat.mul_comm]; omega
  refine ⟨fun h => ?_, fun h => ?_⟩
  · have := div_mod_of e h
    exact ⟨this.1.symm, this.2.symm⟩
  · have e2 : N + C % D = (N / D + 1) * D + (N % D + C % D - D) := by rw [Nat.add_mul, Nat.one_mul]; omega
    have := div_mod_of e2 (by omega)
    exact ⟨this.1.symm, this.2.symm⟩

end Go.Proofs.YtgjbaamhpapeeaaGreatDoor
