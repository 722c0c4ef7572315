/- The reference of chapter 04: sums, order. -/
import Derived.Test.YtalodfjplegibaaGreatDoorRefE
import Derived.Test.YtalodfjplegibaaGreatDoorRatG
namespace Go.Proofs.YtalodfjplegibaaGreatDoor
set_option linter.unusedSimpArgs false
open Go.RowKit
set_option linter.unusedVariables false

theorem lgr_le {n P : Nat} (hk : Go.Lib.bitLen n - 1 < 64) : (lgr n P).1 ≤ 2 ^ (P + 6) ∧ (lgr n P).2 ≤ 2 ^ (P + 6) := by
  have e : (2 : Nat) ^ (P + 6) = 64 * 2 ^ P := by rw [Nat.pow_add, Nat.mul_comm]
  unfold lgr
  split
  · rw [e]
    exact ⟨Nat.mul_le_mul_right _ (Nat.le_of_lt hk), Nat.mul_le_mul_right _ (Nat.le_of_lt hk)⟩
  · have := lgL_le (D := 2 ^ (2 * P + 60)) P 0 (n * 2 ^ (2 * P + 60 - (Go.Lib.bitLen n - 1))) (n * 2 ^ (2 * P + 60 - (Go.Lib.bitLen n - 1))) (Go.Lib.bitLen n - 1) hk
    rw [Nat.zero_add] at this
    exact this
/-- numbers of which the reference finds the logarithm -/
def r4N (n : Nat) : Prop := 1 ≤ n ∧ n < 2097152
theorem p6_r4 {n : Nat} (h : n ∈ primes6) : r4N n := by
  simp only [primes6, List.mem_cons, List.not_mem_nil, or_false] at h
  unfold r4N
  omega
theorem r4N.len {n : Nat} (h : r4N n) : ∃ k, 2 ^ k ≤ n ∧ n < 2 ^ (k + 1) ∧ k ≤ 20 ∧ Go.Lib.bitLen n - 1 = k := by
  obtain ⟨h1, h2⟩ := h
  obtain ⟨b1, b2⟩ := bitLen_bounds h1 (Nat.lt_trans h2 (by decide))
  refine ⟨_, b1, b2, ?_, rfl⟩
  rcases Nat.lt_or_ge 20 (Go.Lib.bitLen n - 1) with h0 | h0
  · have := Nat.pow_le_pow_right (n := 2) (by decide) (show 21 ≤ Go.Lib.bitLen n - 1 from h0)
    omega
  · exact h0
theorem r4N.short {n : Nat} (h : r4N n) : Go.Lib.bitLen n - 1 < 64 := by
  obtain ⟨k, _, _, h3, h4⟩ := h.len
  omega
theorem lgr_one (P : Nat) : lgr 1 P = (0, 0) := by
  have e : Go.Lib.bitLen 1 = 1 := by decide +kernel
  unfold lgr
  rw [e]
  simp
/-- a number does not lie in a block of other values -/
theorem LN.set {w : World} {v : Value} {a g : Nat} {t : TypeId} {cs : Array Value} (h : LN w v a) (hb : Blk w g t cs) (hx : ∀ (i : Nat) (k : IntKind) (z : Int), cs[i]? ≠ some (.int k z)) (i : Nat) (u : Value) : LN (w.setCell ⟨g, i, none⟩ u) v a := by
  obtain ⟨A, c, rfl, h1, h2, hV⟩ := h
  refine ⟨A, c, rfl, h1, h2, hV.1, fun hn => ?_⟩
  obtain ⟨ad, e, hl, hc⟩ := hV.2 hn
  refine ⟨ad, e, by simpa using hl, fun j x hj => ?_⟩
  have hcj := hc j x hj
  rw [World.cell?_setCell_other w _ _ _ (fun e => ?_)]
  · exact hcj
  · rw [← e, hb.cell] at hcj
    rw [List.getElem?_map] at hj
    cases hl : (C.limbs a)[j]? with
    | none => rw [hl] at hj; cases hj
    | some y =>
      rw [hl] at hj
      injection hj with hj
      rw [← hj] at hcj
      exact hx _ _ _ hcj
theorem LN.slice {w : World} {v : Value} {a : Nat} (h : LN w v a) : ∃ A n c, v = .slice A n c := by
  obtain ⟨A, c, rfl, _⟩ := h; exact ⟨A, _, c, rfl⟩
structure FourLN (w : World) (g : (Nat × Nat) × (Nat × Nat)) (v1 v2 v3 v4 : Value) : Prop where
  a : LN w v1 g.1.1
  b : LN w v2 g.1.2
  c : LN w v3 g.2.1
  d : LN w v4 g.2.2
theorem FourLN.below {w w' : World} {g : (Nat × Nat) × (Nat × Nat)} {v1 v2 v3 v4 : Value} (h : FourLN w g v1 v2 v3 v4) (hb : Below w.heap.size w w') : FourLN w' g v1 v2 v3 v4 := ⟨h.a.below hb, h.b.below hb, h.c.below hb, h.d.below hb⟩
theorem FourLN.set {w : World} {g : (Nat × Nat) × (Nat × Nat)} {v1 v2 v3 v4 x y : Value} {b : Nat} {t : TypeId} (h : FourLN w g v1 v2 v3 v4) (hb : Blk w b t #[x, y]) (hx : ∃ A n c, x = .slice A n c) (hy : ∃ A n c, y = .slice A n c) (i : Nat) (u : Value) : FourLN (w.setCell ⟨b, i, none⟩ u) g v1 v2 v3 v4 :=
  ⟨h.a.set hb (pair_not_int x y hx hy) i u, h.b.set hb (pair_not_int x y hx hy) i u, h.c.set hb (pair_not_int x y hx hy) i u, h.d.set hb (pair_not_int x y hx hy) i u⟩
/-- the reference's numbers are not too long -/
theorem sums_len {l : List (Nat × Int)} {P : Nat} (hn : l.length ≤ 17) (hP : P ≤ 600) (h6 : ∀ x ∈ l, r4N x.1 ∧ x.2.natAbs ≤ 1152921504606846976) :
    ∀ x, (x = (sumB (fun n => lgr n P) l).1.1 ∨ x = (sumB (fun n => lgr n P) l).1.2 ∨ x = (sumB (fun n => lgr n P) l).2.1 ∨ x = (sumB (fun n => lgr n P) l).2.2) → (C.limbs x).length ≤ 100 := by
  have hb : ∀ x ∈ l, (lgr x.1 P).1 ≤ 2 ^ (P + 6) ∧ (lgr x.1 P).2 ≤ 2 ^ (P + 6) ∧ x.2.natAbs ≤ 1152921504606846976 := fun x hx => by
    have h := (h6 x hx).1
    have hk := h.short
    exact ⟨(lgr_le hk).1, (lgr_le hk).2, (h6 x hx).2⟩
  obtain ⟨h1, h2, h3, h4⟩ := sumB_le (B := fun n => lgr n P) l hb
  have hm := Nat.mul_le_mul_right (2 ^ (P + 6) * 1152921504606846976) hn
  have e : (2 : Nat) ^ (P + 6 + 66) = 2 ^ (P + 6) * 1152921504606846976 * 64 := by rw [Nat.pow_add, Nat.mul_assoc]
  have hp : 0 < 2 ^ (P + 6) * 1152921504606846976 := Nat.mul_pos (Nat.pow_pos (by decide)) (by decide)
  generalize 2 ^ (P + 6) * 1152921504606846976 = Z at *
  intro x hx
  refine C.len_le_pow (E := P + 6 + 66) ?_ (by omega)
  rw [e]
  rcases hx with rfl | rfl | rfl | rfl <;> omega
theorem FourLN.put1 {w : World} {g : (Nat × Nat) × (Nat × Nat)} {v1 v2 v3 v4 r : Value} {b x : Nat} {t : TypeId} (h : FourLN w g v1 v2 v3 v4) (hb : Blk w b t #[v1, v2]) (hr : LN w r x) : FourLN (w.setCell ⟨b, 0, none⟩ r) ((x, g.1.2), g.2) r v2 v3 v4 :=
  let n := pair_not_int v1 v2 h.a.slice h.b.slice
  ⟨hr.set hb n 0 r, h.b.set hb n 0 r, h.c.set hb n 0 r, h.d.set hb n 0 r⟩
theorem FourLN.put2 {w : World} {g : (Nat × Nat) × (Nat × Nat)} {v1 v2 v3 v4 r : Value} {b x : Nat} {t : TypeId} (h : FourLN w g v1 v2 v3 v4) (hb : Blk w b t #[v1, v2]) (hr : LN w r x) : FourLN (w.setCell ⟨b, 1, none⟩ r) ((g.1.1, x), g.2) v1 r v3 v4 :=
  let n := pair_not_int v1 v2 h.a.slice h.b.slice
  ⟨h.a.set hb n 1 r, hr.set hb n 1 r, h.c.set hb n 1 r, h.d.set hb n 1 r⟩
theorem FourLN.put3 {w : World} {g : (Nat × Nat) × (Nat × Nat)} {v1 v2 v3 v4 r : Value} {b x : Nat} {t : TypeId} (h : FourLN w g v1 v2 v3 v4) (hb : Blk w b t #[v3, v4]) (hr : LN w r x) : FourLN (w.setCell ⟨b, 0, none⟩ r) (g.1, (x, g.2.2)) v1 v2 r v4 :=
  let n := pair_not_int v3 v4 h.c.slice h.d.slice
  ⟨h.a.set hb n 0 r, h.b.set hb n 0 r, hr.set hb n 0 r, h.d.set hb n 0 r⟩
theorem FourLN.put4 {w : World} {g : (Nat × Nat) × (Nat × Nat)} {v1 v2 v3 v4 r : Value} {b x : Nat} {t : TypeId} (h : FourLN w g v1 v2 v3 v4) (hb : Blk w b t #[v3, v4]) (hr : LN w r x) : FourLN (w.setCell ⟨b, 1, none⟩ r) (g.1, (g.2.1, x)) v1 v2 v3 r :=
  let n := pair_not_int v3 v4 h.c.slice h.d.slice
  ⟨h.a.set hb n 1 r, h.b.set hb n 1 r, h.c.set hb n 1 r, hr.set hb n 1 r⟩
theorem sumB_zero (B : Nat → Nat × Nat) (n : Nat) (l : List (Nat × Int)) : sumB B (l ++ [(n, 0)]) = sumB B l := by
  rw [sumB_snoc, if_pos (Int.le_refl _)]
  simp
/-- what sums returns -/
def SumLN (w : World) (e : Ending) (g : (Nat × Nat) × (Nat × Nat)) : Prop := ∃ v1 v2 v3 v4, e = .returned (.tuple #[.agg #[v1, v2], .agg #[v3, v4]]) ∧ FourLN w g v1 v2 v3 v4
end Go.Proofs.YtalodfjplegibaaGreatDoor
