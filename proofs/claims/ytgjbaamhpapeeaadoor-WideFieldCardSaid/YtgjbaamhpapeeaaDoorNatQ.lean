/- Fractions as rational numbers: the plain law. -/
import Derived.Test.YtgjbaamhpapeeaaDoorQuoF
import Derived.Test.YtgjbaamhpapeeaaDoorQuoD
namespace Go.Proofs.YtgjbaamhpapeeaaDoor
open Go.RowKit
set_option linter.unusedVariables false
set_option linter.unusedSimpArgs false

/-- a numerator with its sign -/
def sg (neg : Bool) (a : Nat) : Int := if neg = true then -(a : Int) else (a : Int)
def rq (neg : Bool) (a b : Nat) : Rat := mkRat (sg neg a) b
/-- in lowest terms -/
structure Pr (neg : Bool) (a b : Nat) : Prop where
  pos : b ≠ 0
  one : Nat.gcd a b = 1
  nz : neg = true → a ≠ 0
theorem sg_abs (n : Bool) (a : Nat) : (sg n a).natAbs = a := by unfold sg; split <;> simp
theorem rq_inj {n m : Bool} {a b c d : Nat} (h1 : Pr n a b) (h2 : Pr m c d) (h : rq n a b = rq m c d) : n = m ∧ a = c ∧ b = d := by
  have e1 := Rat.mk_eq_mkRat (sg n a) b h1.pos (by rw [sg_abs]; exact h1.one)
  have e2 := Rat.mk_eq_mkRat (sg m c) d h2.pos (by rw [sg_abs]; exact h2.one)
  unfold rq at h
  rw [← e1, ← e2] at h
  injection h with h3 h4
  have ha : a = c := by have := congrArg Int.natAbs h3; rwa [sg_abs, sg_abs] at this
  refine ⟨?_, ha, h4⟩
  subst ha
  unfold sg at h3
  cases n <;> cases m <;> simp at h3 ⊢
  · have := h2.nz rfl; omega
  · have := h1.nz rfl; omega
/-- lowest terms -/
def redN (n : Bool) (a : Nat) : Bool := n && decide (a ≠ 0)
def redA (a b : Nat) : Nat := a / Nat.gcd a b
def redB (a b : Nat) : Nat := b / Nat.gcd a b
theorem gcd_pos {a b : Nat} (hb : b ≠ 0) : 0 < Nat.gcd a b := Nat.gcd_pos_of_pos_right a (Nat.pos_of_ne_zero hb)
theorem redA_mul (a b : Nat) : redA a b * Nat.gcd a b = a := Nat.div_mul_cancel (Nat.gcd_dvd_left a b)
theorem redB_mul (a b : Nat) : redB a b * Nat.gcd a b = b := Nat.div_mul_cancel (Nat.gcd_dvd_right a b)
theorem redA_zero {a b : Nat} (hb : b ≠ 0) : redA a b = 0 ↔ a = 0 := by
  have h1 := redA_mul a b
  have h2 := gcd_pos (a := a) hb
  constructor
  · intro h; rw [h, Nat.zero_mul] at h1; exact h1.symm
  · rintro rfl; simp [redA]
theorem redB_pos {a b : Nat} (hb : b ≠ 0) : redB a b ≠ 0 := by
  intro h
  have h1 := redB_mul a b
  rw [h, Nat.zero_mul] at h1
  exact hb h1.symm
theorem red_lt {a b : Nat} (hb : b ≠ 0) : redA a b < redB a b ↔ a < b := by
  have h1 := redA_mul a b
  have h2 := redB_mul a b
  have h3 := gcd_pos (a := a) hb
  generalize redA a b = x at *
  generalize redB a b = y at *
  generalize Nat.gcd a b = g at *
  constructor
  · intro h
    have := Nat.mul_lt_mul_of_pos_right h h3
    omega
  · intro h
    rcases Nat.lt_or_ge x y with k | k
    · exact k
    · have := Nat.mul_le_mul_right g k
      omega
theorem red_pr (n : Bool) {a b : Nat} (hb : b ≠ 0) : Pr (redN n a) (redA a b) (redB a b) := by
  refine ⟨redB_pos hb, Nat.gcd_div_gcd_div_gcd_of_pos_right (Nat.pos_of_ne_zero hb), fun h h0 => ?_⟩
  have := (redA_zero hb).1 h0
  simp [redN, this] at h
theorem sg_redN (n : Bool) (a : Nat) (c : Nat) (h : a = 0 → c = 0) : sg (redN n a) c = sg n c := by
  unfold sg redN
  by_cases ha : a = 0
  · have := h ha; subst this; simp
  · cases n <;> simp [ha]
theorem rq_red (n : Bool) {a b : Nat} (hb : b ≠ 0) : rq (redN n a) (redA a b) (redB a b) = rq n a b := by
  unfold rq
  rw [sg_redN n a _ (fun h => (redA_zero hb).2 h)]
  rw [Rat.mkRat_eq_iff (redB_pos hb) hb]
  have h1 := redA_mul a b
  have h2 := redB_mul a b
  have h3 : redA a b * b = a * redB a b := by
    generalize redA a b = x at *
    generalize redB a b = y at *
    generalize Nat.gcd a b = g at *
    subst h1
    subst h2
    rw [Nat.mul_assoc, Nat.mul_comm g y]
  have h4 : (redA a b : Int) * (b : Int) = (a : Int) * (redB a b : Int) := by exact_mod_cast h3
  unfold sg
  split
  · rw [Int.neg_mul, Int.neg_mul, h4]
  · exact h4
theorem sg_sum (na : Bool) (x : Nat) (nb : Bool) (y : Nat) (r : Bool × Nat) (h : r = if na = nb then (na, x + y) else if x < y then (nb, y - x) else (na, x - y)) : sg r.1 r.2 = sg na x + sg nb y := by
  subst h
  unfold sg
  cases na <;> cases nb <;> simp
  · split <;> simp <;> omega
  · split <;> simp <;> omega
  · omega
theorem sg_mul (n : Bool) (a k : Nat) : sg n a * (k : Int) = sg n (a * k) := by
  unfold sg
  split <;> simp [Int.neg_mul]
theorem rq_sum {na nb : Bool} {a b c d : Nat} (hb : b ≠ 0) (hd : d ≠ 0) : rq (sumS na a b nb c d).1 (sumS na a b nb c d).2 (b * d) = rq na a b + rq nb c d := by
  unfold rq
  rw [Rat.mkRat_add_mkRat _ _ hb hd, sg_mul, sg_mul]
  rw [sg_sum na (a * d) nb (c * b) (sumS na a b nb c d) rfl]
theorem rq_neg (n : Bool) (a b : Nat) : rq (!n) a b = -rq n a b := by
  unfold rq
  rw [Rat.neg_mkRat]
  congr 1
  unfold sg
  cases n <;> simp
theorem sg_prod (n m : Bool) (a c : Nat) : sg (!(n == m)) (a * c) = sg n a * sg m c := by
  unfold sg
  cases n <;> cases m <;> simp [Int.neg_mul, Int.mul_neg]
theorem rq_mul (n m : Bool) (a b c d : Nat) : rq (!(n == m)) (a * c) (b * d) = rq n a b * rq m c d := by
  unfold rq
  rw [Rat.mkRat_mul_mkRat, sg_prod]
theorem rq_ne {m : Bool} {c d : Nat} (hd : d ≠ 0) (hc : c ≠ 0) : rq m c d ≠ 0 := by
  unfold rq
  rw [Ne, Rat.mkRat_eq_zero hd]
  intro h
  have := sg_abs m c
  rw [h] at this
  exact hc this.symm
theorem rq_div {n m : Bool} {a b c d : Nat} (hb : b ≠ 0) (hd : d ≠ 0) (hc : c ≠ 0) : rq (!(n == m)) (a * d) (b * c) * rq m c d = rq n a b := by
  unfold rq
  rw [Rat.mkRat_mul_mkRat, Rat.mkRat_eq_iff (Nat.mul_ne_zero (Nat.mul_ne_zero hb hc) hd) hb, ← sg_prod, sg_mul, sg_mul]
  have h1 : (!((!(n == m)) == m)) = n := by cases n <;> cases m <;> rfl
  rw [h1]
  congr 1
  simp only [Nat.mul_comm, Nat.mul_left_comm, Nat.mul_assoc]
theorem rat_cancel {x y z : Rat} (hz : z ≠ 0) (h : x * z = y * z) : x = y := by
  have h1 : x * z * z⁻¹ = y * z * z⁻¹ := by rw [h]
  rwa [Rat.mul_assoc, Rat.mul_assoc, Rat.mul_inv_cancel z hz, Rat.mul_one, Rat.mul_one] at h1
theorem rat_back (x y : Rat) : x + y + -y = x := by rw [Rat.add_assoc, Rat.add_neg_cancel, Rat.add_zero]
theorem rat_dist (x y : Rat) : (x + y) * y = x * y + y * y := Rat.add_mul x y y

/-- the sign of a difference, and that of the comparison -/
theorem qcmp_neg {na nb : Bool} {a b c d : Nat} (h1 : Pr na a b) (h2 : Pr nb c d) : decide (qcmpN na a b nb c d < 0) = redN (sumS na a b (!nb) c d).1 (sumS na a b (!nb) c d).2 := by
  have p1 := Nat.pos_of_ne_zero h1.pos
  have p2 := Nat.pos_of_ne_zero h2.pos
  unfold qcmpN sumS redN cmpN
  cases na <;> cases nb <;> simp
  · split <;> rename_i h
    · simp; omega
    · simp; split <;> (try split) <;> simp <;> omega
  · have := Nat.pos_of_ne_zero (h1.nz rfl)
    have h3 := Nat.mul_pos this p2
    omega
  · split <;> rename_i h
    · simp; try omega
    · simp; split <;> (try split) <;> simp <;> omega
theorem qcmp_zero {na nb : Bool} {a b c d : Nat} (h1 : Pr na a b) (h2 : Pr nb c d) : qcmpN na a b nb c d = 0 ↔ (sumS na a b (!nb) c d).2 = 0 := by
  have p1 := Nat.pos_of_ne_zero h1.pos
  have p2 := Nat.pos_of_ne_zero h2.pos
  unfold qcmpN sumS cmpN
  cases na <;> cases nb <;> simp
  · split <;> rename_i h
    · simp; omega
    · simp; omega
  · have := Nat.pos_of_ne_zero (h2.nz rfl)
    have h3 := Nat.mul_pos this p1
    omega
  · have := Nat.pos_of_ne_zero (h1.nz rfl)
    have h3 := Nat.mul_pos this p2
    omega
  · split <;> rename_i h
    · simp; omega
    · simp; omega
theorem floor_part {n : Bool} {a b : Nat} (h : Pr n a b) : redN (sumS n a b (!n) (floorN n a b) 1).1 (sumS n a b (!n) (floorN n a b) 1).2 = false ∧ (sumS n a b (!n) (floorN n a b) 1).2 < b * 1 ∧ Pr n (floorN n a b) 1 := by
  have p1 := Nat.pos_of_ne_zero h.pos
  have hm := Nat.mod_lt a p1
  have hd := Nat.div_add_mod a b
  have hf : floorN n a b * b = if n = true ∧ a % b ≠ 0 then a - a % b + b else a - a % b := by
    unfold floorN
    split
    · rw [Nat.add_mul, Nat.one_mul, Nat.mul_comm]; omega
    · rw [Nat.mul_comm]; omega
  have hnz : n = true → floorN n a b ≠ 0 := by
    intro hn h0
    rw [h0, Nat.zero_mul] at hf
    have := Nat.pos_of_ne_zero (h.nz hn)
    by_cases hmz : a % b = 0
    · simp [hmz] at hf; omega
    · simp [hn, hmz] at hf; omega
  refine ⟨?_, ?_, by decide, by simp, hnz⟩
  · unfold sumS redN
    rw [hf, Nat.mul_one]
    cases n <;> simp
    · have : ¬ (a < a - a % b) := by omega
      simp [this]
    · by_cases hmz : a % b = 0
      · simp [hmz]
      · simp [hmz]
        have : a < a - a % b + b := by omega
        simp [this]
  · unfold sumS
    rw [hf, Nat.mul_one, Nat.mul_one]
    cases n <;> simp
    · have : ¬ (a < a - a % b) := by omega
      simp [this]; omega
    · by_cases hmz : a % b = 0
      · simp [hmz]; exact p1
      · simp [hmz]
        have : a < a - a % b + b := by omega
        simp [this]; omega
end Go.Proofs.YtgjbaamhpapeeaaDoor
