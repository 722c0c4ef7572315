/- Plain law: the ratio in lowest terms with given exponents and denominator; products, quotients, powers. No program in sight. -/
import Derived.Test.YtalodfjplegibaaGreatDoorRatJ
namespace Go.Proofs.YtalodfjplegibaaGreatDoor
set_option linter.unusedSimpArgs false
set_option linter.unusedVariables false

/-- the ratio in lowest terms -/
def mkR (r : RV) : RV := RV.of (fun i => (r.num i).tdiv (r.gcd 6 : Nat)) (r.d.tdiv (r.gcd 6 : Nat))
theorem RV.gcd_dvd (r : RV) : ∀ i, r.gcd i ∣ r.d.natAbs ∧ ∀ j, j < i → r.gcd i ∣ (r.num j).natAbs
  | 0 => ⟨Nat.dvd_refl _, fun j hj => absurd hj (Nat.not_lt_zero _)⟩
  | i+1 => by
    obtain ⟨h1, h2⟩ := RV.gcd_dvd r i
    have h3 := Nat.gcd_dvd_left (r.gcd i) (r.num i).natAbs
    refine ⟨Nat.dvd_trans h3 h1, fun j hj => ?_⟩
    rcases Nat.lt_or_ge j i with h | h
    · exact Nat.dvd_trans h3 (h2 j h)
    · obtain rfl : j = i := by omega
      exact Nat.gcd_dvd_right _ _
theorem tdiv_abs {z : Int} {g : Nat} (hg : 0 < g) (hd : g ∣ z.natAbs) : (z.tdiv g).natAbs * g = z.natAbs := by
  rw [Int.natAbs_tdiv, Int.natAbs_natCast]
  exact Nat.div_mul_cancel hd
theorem mkR_num (r : RV) {i : Nat} (hi : i < 6) : (mkR r).num i = (r.num i).tdiv (r.gcd 6 : Nat) := RV.of_num _ _ hi
theorem mkR_gcd (r : RV) (h : 1 ≤ r.d) : ∀ i, i ≤ 6 → (mkR r).gcd i * r.gcd 6 = r.gcd i
  | 0, _ => tdiv_abs (RV.gcd_pos h 6).1 (RV.gcd_dvd r 6).1
  | i+1, hi => by
    have ih := mkR_gcd r h i (by omega)
    show Nat.gcd ((mkR r).gcd i) ((mkR r).num i).natAbs * r.gcd 6 = Nat.gcd (r.gcd i) (r.num i).natAbs
    rw [mkR_num r (by omega), ← Nat.gcd_mul_right, ih, tdiv_abs (RV.gcd_pos h 6).1 ((RV.gcd_dvd r 6).2 i (by omega))]
theorem mkR_one (r : RV) (h : 1 ≤ r.d) : (mkR r).gcd 6 = 1 := by
  have := mkR_gcd r h 6 (Nat.le_refl _)
  have hp := (RV.gcd_pos h 6).1
  exact Nat.eq_of_mul_eq_mul_right hp (by rw [this, Nat.one_mul])
theorem mkR_pos (r : RV) (h : 1 ≤ r.d) : 1 ≤ (mkR r).d := by
  have hp := (RV.gcd_pos h 6)
  have h1 := tdiv_abs hp.1 (RV.gcd_dvd r 6).1
  have h0 : 0 ≤ r.d.tdiv (r.gcd 6 : Nat) := Int.tdiv_nonneg (by omega) (by omega)
  show 1 ≤ r.d.tdiv (r.gcd 6 : Nat)
  rcases Int.lt_or_le 0 (r.d.tdiv (r.gcd 6 : Nat)) with h2 | h2
  · omega
  · rw [show r.d.tdiv (r.gcd 6 : Nat) = 0 by omega] at h1
    simp at h1
    omega
open Classical in
/-- what made returns: the ratio in lowest terms, where it fits -/
noncomputable def madeS (r : RV) : RV × Int := if (mkR r).d ≤ 1000 ∧ ∀ i, i < 6 → inR ((mkR r).num i) then (mkR r, 0) else (RVzero, 7)
/-- Check tells just that -/
theorem madeS_check (r : RV) (h : 1 ≤ r.d) : (checkS (mkR r) = 0 → madeS r = (mkR r, 0)) ∧ (checkS (mkR r) ≠ 0 → madeS r = (RVzero, 7)) := by
  have hp := mkR_pos r h
  have h1 := mkR_one r h
  refine ⟨fun h0 => ?_, fun h0 => ?_⟩
  · obtain ⟨h2, h3, _⟩ := checkS_ok h0
    unfold madeS
    rw [if_pos ⟨h2.2, h3⟩]
  · unfold madeS
    rw [if_neg]
    rintro ⟨h2, h3⟩
    apply h0
    unfold checkS
    rw [if_neg (by omega), if_pos h3, if_pos h1]
/-- the first of two errors -/
def firstE (a b : Int) : Int := if a = 0 then b else a
/-- a times the power by of b, not yet in lowest terms -/
def joinR (a b : RV) (by' : Int) : RV := RV.of (fun i => a.num i * b.d + by' * b.num i * a.d) (a.d * b.d)
/-- what a product, a quotient returns -/
noncomputable def joinS (a b : RV) (by' : Int) : RV × Int :=
  if firstE (checkS a) (checkS b) = 0 then madeS (joinR a b by') else (RVzero, firstE (checkS a) (checkS b))
theorem joinR_good {a b : RV} {by' : Int} (ha : checkS a = 0) (hb : checkS b = 0) (hy : by' = 1 ∨ by' = -1) :
    1 ≤ (joinR a b by').d ∧ (joinR a b by').d ≤ 1000000 ∧ ∀ i, i < 6 → -1000000000 ≤ (joinR a b by').num i ∧ (joinR a b by').num i ≤ 1000000000 := by
  obtain ⟨a1, a2, _⟩ := checkS_ok ha
  obtain ⟨b1, b2, _⟩ := checkS_ok hb
  have hd : 1 ≤ a.d * b.d ∧ a.d * b.d ≤ 1000000 := by
    have h1 := Int.mul_le_mul a1.1 b1.1 (by decide) (by omega : (0 : Int) ≤ a.d)
    have h2 := Int.mul_le_mul a1.2 b1.2 (by omega) (by decide)
    omega
  refine ⟨hd.1, hd.2, fun i hi => ?_⟩
  have hn : (joinR a b by').num i = a.num i * b.d + by' * b.num i * a.d := RV.of_num _ _ hi
  rw [hn]
  have aux : ∀ x d : Int, inR x → 1 ≤ d → d ≤ 1000 → -100000000 ≤ x * d ∧ x * d ≤ 100000000 := by
    intro x d hx h1 h2
    have l1 := hx.1
    have l2 := hx.2
    constructor
    · have e1 : -100000 * d ≤ x * d := Int.mul_le_mul_of_nonneg_right l1 (by omega)
      omega
    · have e1 : x * d ≤ 100000 * d := Int.mul_le_mul_of_nonneg_right l2 (by omega)
      omega
  have e1 := aux _ _ (a2 i hi) b1.1 b1.2
  have e2 := aux _ _ (b2 i hi) a1.1 a1.2
  rcases hy with rfl | rfl
  · rw [Int.one_mul]; omega
  · rw [Int.neg_one_mul, Int.neg_mul]; omega
/-- a power, not yet in lowest terms -/
def powR (a : RV) (n d : Int) : RV := RV.of (fun i => a.num i * (if d < 0 then -n else n)) (a.d * (if d < 0 then -d else d))
def okP (n d : Int) : Prop := (-1000 ≤ n ∧ n ≤ 1000) ∧ (-1000 ≤ d ∧ d ≤ 1000) ∧ d ≠ 0
open Classical in
/-- what Pow returns -/
noncomputable def powS (a : RV) (n d : Int) : RV × Int :=
  if checkS a = 0 then (if okP n d then madeS (powR a n d) else (RVzero, 2)) else (RVzero, checkS a)
theorem powR_good {a : RV} {n d : Int} (ha : checkS a = 0) (h : okP n d) :
    1 ≤ (powR a n d).d ∧ (powR a n d).d ≤ 1000000 ∧ ∀ i, i < 6 → -1000000000 ≤ (powR a n d).num i ∧ (powR a n d).num i ≤ 1000000000 := by
  obtain ⟨a1, a2, _⟩ := checkS_ok ha
  obtain ⟨n1, d1, d0⟩ := h
  obtain ⟨m, hm⟩ : ∃ m, (if d < 0 then -n else n) = m := ⟨_, rfl⟩
  obtain ⟨c, hc⟩ : ∃ c, (if d < 0 then -d else d) = c := ⟨_, rfl⟩
  have hm1 : -1000 ≤ m ∧ m ≤ 1000 := by rw [← hm]; split <;> omega
  have hc1 : 1 ≤ c ∧ c ≤ 1000 := by rw [← hc]; split <;> omega
  have hd : 1 ≤ a.d * c ∧ a.d * c ≤ 1000000 := by
    have h1 := Int.mul_le_mul a1.1 hc1.1 (by decide) (by omega : (0 : Int) ≤ a.d)
    have h2 := Int.mul_le_mul a1.2 hc1.2 (by omega) (by decide)
    omega
  unfold powR
  rw [hm, hc]
  refine ⟨hd.1, hd.2, fun i hi => ?_⟩
  rw [RV.of_num _ _ hi]
  have l := a2 i hi
  have hab : (a.num i * m).natAbs ≤ 100000 * 1000 := by
    rw [Int.natAbs_mul]
    exact Nat.mul_le_mul (by have := l.1; have := l.2; omega) (by omega)
  omega
end Go.Proofs.YtalodfjplegibaaGreatDoor
