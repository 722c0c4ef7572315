/- Plain law: ratios in lowest terms: unique; as whole exponents over a common denominator. No program in sight. -/
import Derived.Test.YtalodfjplegibaaGreatDoorRatW
namespace Go.Proofs.YtalodfjplegibaaGreatDoor
set_option linter.unusedSimpArgs false
set_option linter.unusedVariables false

theorem mkR_numg (R : RV) {j : Nat} (hj : j < 6) : (mkR R).num j * ((R.gcd 6 : Nat) : Int) = R.num j := by
  rw [mkR_num R hj]
  exact Int.tdiv_mul_cancel (Int.ofNat_dvd_left.2 ((RV.gcd_dvd R 6).2 j hj))
theorem mkR_dg (R : RV) : (mkR R).d * ((R.gcd 6 : Nat) : Int) = R.d := Int.tdiv_mul_cancel (Int.ofNat_dvd_left.2 (RV.gcd_dvd R 6).1)
/-- the ratio in lowest terms of exponents over a denominator -/
def nr (v : Nat → Int) (D : Int) : RV := mkR (RV.of v D)
theorem RV.ext6 {r s : RV} (h : ∀ j, j < 6 → r.num j = s.num j) (hd : r.d = s.d) : r = s := by
  obtain ⟨a0, a1, a2, a3, a4, a5, ad⟩ := r
  obtain ⟨b0, b1, b2, b3, b4, b5, bd⟩ := s
  have h0 := h 0 (by decide)
  have h1 := h 1 (by decide)
  have h2 := h 2 (by decide)
  have h3 := h 3 (by decide)
  have h4 := h 4 (by decide)
  have h5 := h 5 (by decide)
  simp only [RV.num] at h0 h1 h2 h3 h4 h5 hd
  subst h0 h1 h2 h3 h4 h5 hd
  rfl
theorem RV.gcd_scale (r : RV) (c : Int) : ∀ i, i ≤ 6 → (RV.of (fun j => r.num j * c) (r.d * c)).gcd i = r.gcd i * c.natAbs
  | 0, _ => Int.natAbs_mul _ _
  | i+1, hi => by
    show Nat.gcd ((RV.of (fun j => r.num j * c) (r.d * c)).gcd i) ((RV.of (fun j => r.num j * c) (r.d * c)).num i).natAbs = Nat.gcd (r.gcd i) (r.num i).natAbs * c.natAbs
    rw [RV.gcd_scale r c i (by omega), RV.of_num _ _ (by omega), Int.natAbs_mul, Nat.gcd_mul_right]
theorem RV.red_unique {r s : RV} (hr : r.gcd 6 = 1) (hs : s.gcd 6 = 1) (r0 : 1 ≤ r.d) (s0 : 1 ≤ s.d) (h : ∀ j, j < 6 → r.num j * s.d = s.num j * r.d) : r = s := by
  have e1 := RV.gcd_scale r s.d 6 (Nat.le_refl _)
  have e2 := RV.gcd_scale s r.d 6 (Nat.le_refl _)
  rw [RV.of_congr _ h, Int.mul_comm r.d s.d] at e1
  rw [e1, hr, hs] at e2
  have hd : r.d = s.d := by omega
  refine RV.ext6 (fun j hj => ?_) hd
  have := h j hj
  rw [hd] at this
  exact Int.eq_of_mul_eq_mul_right (by omega) this
theorem RV.of_d (f : Nat → Int) (d : Int) : (RV.of f d).d = d := rfl
theorem nr_g (v : Nat → Int) {D : Int} (hD : 1 ≤ D) : ∃ g : Nat, 0 < g ∧ (nr v D).d * (g : Int) = D ∧ ∀ j, j < 6 → (nr v D).num j * (g : Int) = v j := by
  refine ⟨(RV.of v D).gcd 6, (RV.gcd_pos (by exact hD) 6).1, mkR_dg _, fun j hj => ?_⟩
  unfold nr
  rw [mkR_numg _ hj, RV.of_num _ _ hj]
theorem mkR_cross {R S : RV} (hR : 1 ≤ R.d) (hS : 1 ≤ S.d) (h : ∀ j, j < 6 → R.num j * S.d = S.num j * R.d) : mkR R = mkR S := by
  refine RV.red_unique (mkR_one R hR) (mkR_one S hS) (mkR_pos R hR) (mkR_pos S hS) fun j hj => ?_
  have h1 := mkR_numg R hj
  have h2 := mkR_numg S hj
  have h3 := mkR_dg R
  have h4 := mkR_dg S
  have p1 := (RV.gcd_pos hR 6).1
  have p2 := (RV.gcd_pos hS 6).1
  have h5 := h j hj
  rw [← h1, ← h2, ← h3, ← h4] at h5
  generalize (mkR R).num j = a at *
  generalize (mkR S).num j = b at *
  generalize (mkR R).d = c at *
  generalize (mkR S).d = d at *
  have hp : (0 : Int) < ((R.gcd 6 : Nat) : Int) * ((S.gcd 6 : Nat) : Int) := Int.mul_pos (by omega) (by omega)
  generalize ((R.gcd 6 : Nat) : Int) = x at *
  generalize ((S.gcd 6 : Nat) : Int) = y at *
  refine Int.eq_of_mul_eq_mul_right (a := x * y) (by omega) ?_
  grind
theorem nr_cross {u v : Nat → Int} {D E : Int} (hD : 1 ≤ D) (hE : 1 ≤ E) (h : ∀ j, j < 6 → u j * E = v j * D) : nr u D = nr v E :=
  mkR_cross hD hE fun j hj => by rw [RV.of_num _ _ hj, RV.of_num _ _ hj]; exact h j hj
theorem nr_congr {u v : Nat → Int} {D : Int} (h : ∀ j, j < 6 → u j = v j) : nr u D = nr v D := by unfold nr; rw [RV.of_congr D h]
end Go.Proofs.YtalodfjplegibaaGreatDoor
