/- The reference: Pow, Root. -/
import Derived.Test.YtgjbaamhpapeeaaGreatDoorLawR
namespace Go.Proofs.YtgjbaamhpapeeaaGreatDoor
open Go.RowKit
set_option linter.unusedVariables false
set_option linter.unusedSimpArgs false

theorem pow2_len {i M : Nat} (h : i < 32 * M) : (limbs (2 ^ i)).length ≤ M := fit_short' (bitsN_le_iff.2 (Nat.pow_lt_pow_right (by decide) h))
theorem one_shift {i : Nat} (hi : i ≤ 16384) : ∃ y er, shiftS (limbs 1) (i : Int) = (limbs y, er) ∧ (y = 2 ^ i ∧ i < 16384 ∨ y = 0 ∧ i = 16384) := by
  have h1 : limbs 1 = [1] := limbs_one (by decide) (by decide)
  have hv : badE [[1]] = 0 := by decide
  have hb : bitsN 1 = 1 := by decide
  rw [h1]
  have hv1 : valOf [1] = 1 := by simp [valOf]
  have hlt : ∀ x ∈ [1], x < LB := by intro x hx; simp at hx; subst hx; decide
  rcases Nat.lt_or_ge i 16384 with h | h
  · refine ⟨2 ^ i, 0, ?_, .inl ⟨rfl, h⟩⟩
    rw [rShift_fit hv (by omega) (by omega) (.inr (by rw [hv1, hb]; omega)) hlt, if_neg (by omega), hv1, Nat.one_mul, Int.toNat_natCast]
  · refine ⟨0, 3, ?_, .inr ⟨rfl, by omega⟩⟩
    rw [rShift_toolong hv (by omega) (by omega) (by decide) (by rw [hv1, hb]; omega) (by rw [hv1, h1]), limbs_zero]

/-- the root bit by bit: R so far, t bits to come -/
structure RtI (k a R t : Nat) : Prop where
  le : R ^ k ≤ a
  lt : a < (R + 2 ^ t) ^ k
  big : 16384 < t → R = 0
theorem RtI.start {k a N : Nat} (hk : 0 < k) (ha : a < 2 ^ N) : RtI k a 0 (N / k + 1) := by
  refine ⟨by rw [Nat.zero_pow hk]; exact Nat.zero_le _, ?_, fun _ => rfl⟩
  rw [Nat.zero_add, ← Nat.pow_mul]
  refine Nat.lt_of_lt_of_le ha (Nat.pow_le_pow_right (by decide) ?_)
  have := Nat.lt_mul_div_succ N hk
  rw [Nat.mul_comm]
  exact Nat.le_of_lt this
theorem RtI.yes {k a R i y N : Nat} (h : RtI k a R (i+1)) (hk : 0 < k) (hy : y = 2 ^ i ∧ i < 16384 ∨ y = 0 ∧ i = 16384) (ha : a < 2 ^ N) (hN : N ≤ 16384) (hle : (R + y) ^ k ≤ a) : RtI k a (R + y) i := by
  rcases hy with ⟨rfl, hi⟩ | ⟨rfl, hi⟩
  · exact ⟨hle, rootb_up h.lt, fun h => by omega⟩
  · have hR := h.big (by omega)
    subst hR
    refine ⟨hle, ?_, fun _ => rfl⟩
    rw [Nat.add_zero, Nat.zero_add, ← Nat.pow_mul]
    refine Nat.lt_of_lt_of_le ha (Nat.pow_le_pow_right (by decide) ?_)
    have := Nat.le_mul_of_pos_right i hk
    omega
theorem RtI.no {k a R i y : Nat} (h : RtI k a R (i+1)) (hy : y = 2 ^ i ∧ i < 16384 ∨ y = 0 ∧ i = 16384) (hlt : a < (R + y) ^ k) : RtI k a R i := by
  rcases hy with ⟨rfl, hi⟩ | ⟨rfl, hi⟩
  · exact ⟨h.le, hlt, fun h => by omega⟩
  · exact absurd (Nat.lt_of_lt_of_le hlt h.le) (Nat.lt_irrefl _)
theorem long_gt {a p : Nat} (ha : (limbs a).length ≤ 512) (hp : ¬ (limbs p).length ≤ 512) : a < p := by
  rcases Nat.lt_or_ge a p with h | h
  · exact h
  · exact absurd (Nat.le_trans (limbs_mono h) ha) hp
theorem root_le {k a R : Nat} (hk : 0 < k) (h : R ^ k ≤ a) : R ≤ a := Nat.le_trans (Nat.le_self_pow (by omega) R) h

theorem RootS.uniq {la : List Nat} {k : Int} {l l' : List Nat} {er er' : Int} (h : RootS la k l er) (g : RootS la k l' er') : l = l' ∧ er = er' := by
  rcases h with ⟨h1, h2, h3, x, hx, rfl, rfl⟩ | ⟨h1, h2, rfl, rfl⟩ | ⟨h1, rfl, rfl⟩
  · rcases g with ⟨g1, g2, g3, y, hy, rfl, rfl⟩ | ⟨g1, g2, rfl, rfl⟩ | ⟨g1, rfl, rfl⟩
    · have := hx.uniq hy
      subst this
      exact ⟨rfl, rfl⟩
    · omega
    · exact absurd h1 g1
  · rcases g with ⟨g1, g2, g3, y, hy, rfl, rfl⟩ | ⟨g1, g2, rfl, rfl⟩ | ⟨g1, rfl, rfl⟩
    · omega
    · exact ⟨rfl, rfl⟩
    · exact absurd h1 g1
  · rcases g with ⟨g1, g2, g3, y, hy, rfl, rfl⟩ | ⟨g1, g2, rfl, rfl⟩ | ⟨g1, rfl, rfl⟩
    · exact absurd g1 h1
    · exact absurd g1 h1
    · exact ⟨rfl, rfl⟩
theorem RootS.len {la : List Nat} {k : Int} {l : List Nat} {er : Int} (h : RootS la k l er) : l.length ≤ 512 := by
  rcases h with ⟨_, _, _, x, _, rfl, _⟩ | ⟨_, _, rfl, _⟩ | ⟨_, rfl, _⟩
  · unfold fitS
    split
    · assumption
    · simp
  · simp
  · simp
end Go.Proofs.YtgjbaamhpapeeaaGreatDoor
