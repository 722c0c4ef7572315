/- Fractions: contracts in terms of rational numbers. -/
import Derived.Test.YtgjbaamhpapeeaaDoorNatQ
import Derived.Test.YtgjbaamhpapeeaaDoorLawB
namespace Go.Proofs.YtgjbaamhpapeeaaDoor
open Go.RowKit
set_option linter.unusedVariables false
set_option linter.unusedSimpArgs false

/-- a fraction in lowest terms lies here; k: a bound of its limbs -/
def QF (w : World) (ng : Bool) (A : Option Addr) (c : Nat) (B : Option Addr) (d : Nat) (a b k : Nat) : Prop :=
  Arg w A (limbs a).length c (limbs a) ∧ Arg w B (limbs b).length d (limbs b) ∧ Pr ng a b ∧ (limbs a).length ≤ k ∧ (limbs b).length ≤ k
theorem QF.below {w w' : World} {ng A c B d a b k} (h : QF w ng A c B d a b k) (hb : Below w.heap.size w w') : QF w' ng A c B d a b k :=
  ⟨h.1.below hb, h.2.1.below hb, h.2.2.1, h.2.2.2⟩
theorem QF.pr {w : World} {ng A c B d a b k} (h : QF w ng A c B d a b k) : Pr ng a b := h.2.2.1
def qof (ng : Bool) (A : Option Addr) (c : Nat) (B : Option Addr) (d a b : Nat) : QV := ⟨ng, A, (limbs a).length, c, B, (limbs b).length, d, limbs a, limbs b⟩
theorem QF.ok {w : World} {ng A c B d a b k} (h : QF w ng A c B d a b k) : (qof ng A c B d a b).ok w := ⟨h.1, h.2.1⟩
theorem QF.proper {w : World} {ng A c B d a b k} (h : QF w ng A c B d a b k) (hk : k ≤ 512) : (qof ng A c B d a b).proper = true := by
  have h1 := validL_limbs (n := a) (by have := h.2.2.2.1; omega)
  have h2 := validL_limbs (n := b) (by have := h.2.2.2.2; omega)
  have h3 : limbs b ≠ [] := fun h0 => h.pr.pos (limbs_nil_iff.1 h0)
  have h4 : (ng && decide (limbs a = [])) = false := by
    cases hn : ng
    · rfl
    · have := h.pr.nz hn
      simp [limbs_nil_iff, this]
  show properS ng (limbs a) (limbs b) = true
  unfold properS
  rw [h1, h2, h4, valOf_limbs, valOf_limbs]
  simp only [Bool.and_eq_true, decide_eq_true_eq, Bool.not_false]
  refine ⟨⟨⟨?_, h3⟩, ?_⟩, h.pr.one⟩ <;> simp
theorem QF.long {w : World} {ng A c B d a b k} (h : QF w ng A c B d a b k) (hk : k ≤ 512) : (qof ng A c B d a b).long = false := by
  have h1 := h.2.2.2.1
  have h2 := h.2.2.2.2
  show (decide (512 < (limbs a).length) || decide (512 < (limbs b).length)) = false
  rw [decide_eq_false (show ¬ 512 < (limbs a).length by omega), decide_eq_false (show ¬ 512 < (limbs b).length by omega)]
  rfl
theorem check2_zero {p q : QV} (h1 : p.proper = true) (h2 : q.proper = true) (l1 : p.long = false) (l2 : q.long = false) : checkQ (two p q) 2 = 0 := by
  have e : List.range 2 = [0, 1] := rfl
  simp [checkQ, e, two, h1, h2, l1, l2]
theorem check1_zero {p : QV} (h1 : p.proper = true) (l1 : p.long = false) : checkQ (fun _ => p) 1 = 0 := by
  have e : List.range 1 = [0] := rfl
  simp [checkQ, e, h1, l1]
/-- a fraction as a result: that of n a / b -/
def RF (n : Bool) (a b k : Nat) (e : Ending) (w : World) : Prop := ∃ A c B d, e = .returned (.tuple #[qv (redN n a) A (limbs (redA a b)).length c B (limbs (redB a b)).length d, .int .i64 0]) ∧ QF w (redN n a) A c B d (redA a b) (redB a b) k
theorem low_rf {n : Bool} {a b k : Nat} {e : Ending} {w : World} (hb : b ≠ 0) (h1 : (limbs a).length ≤ k) (h2 : (limbs b).length ≤ k) (hk : k ≤ 512) (h : LowRes n a b e w) : RF n a b k e w := by
  have g1 := limbs_len_mono (Nat.div_le_self a (Nat.gcd a b))
  have g2 := limbs_len_mono (Nat.div_le_self b (Nat.gcd a b))
  unfold LowRes lowS at h
  rw [if_pos ⟨by omega, by omega⟩] at h
  obtain ⟨A, c, B, d, e1, k1, k2⟩ := h
  exact ⟨A, c, B, d, e1, k1, k2, red_pr n hb, Nat.le_trans g1 h1, Nat.le_trans g2 h2⟩
/-- a fraction as a result: some fraction, and what it is as a rational number -/
def RQ (x : Rat) (k : Nat) (e : Ending) (w : World) : Prop := ∃ ng A c B d a b, e = .returned (.tuple #[qv ng A (limbs a).length c B (limbs b).length d, .int .i64 0]) ∧ QF w ng A c B d a b k ∧ rq ng a b = x
theorem RF.rq {n : Bool} {a b k : Nat} {e : Ending} {w : World} (hb : b ≠ 0) (h : RF n a b k e w) : RQ (rq n a b) k e w := by
  obtain ⟨A, c, B, d, e1, h1⟩ := h
  exact ⟨_, A, c, B, d, _, _, e1, h1, rq_red n hb⟩

section
variable {w : World} {n m : Bool} {A B C D : Option Addr} {ca cb cc cd a b x y k l : Nat}
theorem QAdd_f (h1 : QF w n A ca B cb a b k) (h2 : QF w m C cc D cd x y l) (hk : k + l + 1 ≤ 512) :
    Calls Tryd.prog 49 #[qv n A (limbs a).length ca B (limbs b).length cb, qv m C (limbs x).length cc D (limbs y).length cd] w fun e w' => RQ (rq n a b + rq m x y) (k + l + 1) e w' ∧ Below w.heap.size w w' :=
  (QAdd_any (qof n A ca B cb a b) (qof m C cc D cd x y) w h1.ok h2.ok).mono fun e w' ⟨h, hb⟩ => by
    refine ⟨?_, hb⟩
    unfold QAddRes at h
    rw [if_pos (check2_zero (h1.proper (by omega)) (h2.proper (by omega)) (h1.long (by omega)) (h2.long (by omega)))] at h
    simp only [qof, valOf_limbs] at h
    rw [← rq_sum h1.pr.pos h2.pr.pos]
    have g1 := limbs_len_mul b y
    have g2 := h1.2.2.2
    have g3 := h2.2.2.2
    have g4 : (limbs (sumS n a b m x y).2).length ≤ k + l + 1 := by
      have j1 := limbs_len_mul a y
      have j2 := limbs_len_mul x b
      have j3 := limbs_len_add (a := a * y) (b := x * b) (M := k + l) (by omega) (by omega)
      refine Nat.le_trans (limbs_len_mono ?_) j3
      unfold sumS
      split
      · exact Nat.le_refl _
      · split
        · exact Nat.le_trans (Nat.sub_le _ _) (Nat.le_add_left _ _)
        · exact Nat.le_trans (Nat.sub_le _ _) (Nat.le_add_right _ _)
    exact (low_rf (Nat.mul_ne_zero h1.pr.pos h2.pr.pos) g4 (by omega) hk h).rq (Nat.mul_ne_zero h1.pr.pos h2.pr.pos)
theorem QSub_r (h1 : QF w n A ca B cb a b k) (h2 : QF w m C cc D cd x y l) (hk : k + l + 1 ≤ 512) :
    Calls Tryd.prog 50 #[qv n A (limbs a).length ca B (limbs b).length cb, qv m C (limbs x).length cc D (limbs y).length cd] w fun e w' => RF (sumS n a b (!m) x y).1 (sumS n a b (!m) x y).2 (b * y) (k + l + 1) e w' ∧ Below w.heap.size w w' :=
  (QSub_any (qof n A ca B cb a b) (qof m C cc D cd x y) w h1.ok h2.ok).mono fun e w' ⟨h, hb⟩ => by
    refine ⟨?_, hb⟩
    unfold QSubRes at h
    rw [if_pos (check2_zero (h1.proper (by omega)) (h2.proper (by omega)) (h1.long (by omega)) (h2.long (by omega)))] at h
    simp only [qof, valOf_limbs] at h
    have g1 := limbs_len_mul b y
    have g2 := h1.2.2.2
    have g3 := h2.2.2.2
    have g4 : (limbs (sumS n a b (!m) x y).2).length ≤ k + l + 1 := by
      have j1 := limbs_len_mul a y
      have j2 := limbs_len_mul x b
      have j3 := limbs_len_add (a := a * y) (b := x * b) (M := k + l) (by omega) (by omega)
      refine Nat.le_trans (limbs_len_mono ?_) j3
      unfold sumS
      split
      · exact Nat.le_refl _
      · split
        · exact Nat.le_trans (Nat.sub_le _ _) (Nat.le_add_left _ _)
        · exact Nat.le_trans (Nat.sub_le _ _) (Nat.le_add_right _ _)
    exact low_rf (Nat.mul_ne_zero h1.pr.pos h2.pr.pos) g4 (by omega) hk h
theorem QSub_f (h1 : QF w n A ca B cb a b k) (h2 : QF w m C cc D cd x y l) (hk : k + l + 1 ≤ 512) :
    Calls Tryd.prog 50 #[qv n A (limbs a).length ca B (limbs b).length cb, qv m C (limbs x).length cc D (limbs y).length cd] w fun e w' => RQ (rq n a b + -rq m x y) (k + l + 1) e w' ∧ Below w.heap.size w w' :=
  (QSub_r h1 h2 hk).mono fun e w' ⟨h, hb⟩ => ⟨by
    rw [← rq_neg, ← rq_sum h1.pr.pos h2.pr.pos]
    exact h.rq (Nat.mul_ne_zero h1.pr.pos h2.pr.pos), hb⟩
theorem QMul_f (h1 : QF w n A ca B cb a b k) (h2 : QF w m C cc D cd x y l) (hk : k + l ≤ 512) :
    Calls Tryd.prog 51 #[qv n A (limbs a).length ca B (limbs b).length cb, qv m C (limbs x).length cc D (limbs y).length cd] w fun e w' => RQ (rq n a b * rq m x y) (k + l) e w' ∧ Below w.heap.size w w' :=
  (QMul_any (qof n A ca B cb a b) (qof m C cc D cd x y) w h1.ok h2.ok).mono fun e w' ⟨h, hb⟩ => by
    refine ⟨?_, hb⟩
    unfold QMulRes at h
    rw [if_pos (check2_zero (h1.proper (by omega)) (h2.proper (by omega)) (h1.long (by omega)) (h2.long (by omega)))] at h
    simp only [qof, valOf_limbs] at h
    have g1 := limbs_len_mul b y
    have g2 := h1.2.2.2
    have g3 := h2.2.2.2
    have g4 := limbs_len_mul a x
    rw [← rq_mul]
    exact (low_rf (Nat.mul_ne_zero h1.pr.pos h2.pr.pos) (by omega) (by omega) hk h).rq (Nat.mul_ne_zero h1.pr.pos h2.pr.pos)
/-- a quotient, times the divisor, is the number -/
theorem QDiv_f (h1 : QF w n A ca B cb a b k) (h2 : QF w m C cc D cd x y l) (hx : x ≠ 0) (hk : k + l ≤ 512) :
    Calls Tryd.prog 52 #[qv n A (limbs a).length ca B (limbs b).length cb, qv m C (limbs x).length cc D (limbs y).length cd] w fun e w' => (∃ z, RQ z (k + l) e w' ∧ z * rq m x y = rq n a b) ∧ Below w.heap.size w w' :=
  (QDiv_any (qof n A ca B cb a b) (qof m C cc D cd x y) w h1.ok h2.ok).mono fun e w' ⟨h, hb⟩ => by
    refine ⟨?_, hb⟩
    unfold QDivRes at h
    rw [if_pos (check2_zero (h1.proper (by omega)) (h2.proper (by omega)) (h1.long (by omega)) (h2.long (by omega)))] at h
    simp only [qof, valOf_limbs, if_neg hx] at h
    have g1 := limbs_len_mul b x
    have g2 := h1.2.2.2
    have g3 := h2.2.2.2
    have g4 := limbs_len_mul a y
    exact ⟨_, (low_rf (Nat.mul_ne_zero h1.pr.pos hx) (by omega) (by omega) hk h).rq (Nat.mul_ne_zero h1.pr.pos hx), rq_div h1.pr.pos h2.pr.pos hx⟩
theorem QCmp_f (h1 : QF w n A ca B cb a b k) (h2 : QF w m C cc D cd x y l) (hk : k ≤ 512) (hl : l ≤ 512) :
    Calls Tryd.prog 53 #[qv n A (limbs a).length ca B (limbs b).length cb, qv m C (limbs x).length cc D (limbs y).length cd] w fun e w' => e = .returned (.tuple #[.int .i64 (qcmpN n a b m x y), .int .i64 0]) ∧ Below w.heap.size w w' :=
  (QCmp_any (qof n A ca B cb a b) (qof m C cc D cd x y) w h1.ok h2.ok).mono fun e w' ⟨h, hb⟩ => by
    refine ⟨?_, hb⟩
    unfold QCmpS at h
    rw [if_pos (check2_zero (h1.proper (by omega)) (h2.proper (by omega)) (h1.long (by omega)) (h2.long (by omega)))] at h
    simp only [qof, valOf_limbs] at h
    exact h
theorem QFloor_f (h1 : QF w n A ca B cb a b k) (hk : k ≤ 512) :
    Calls Tryd.prog 54 #[qv n A (limbs a).length ca B (limbs b).length cb] w fun e w' => FRes n (limbs (floorN n a b)) 0 e w' ∧ Below w.heap.size w w' :=
  (QFloor_any (qof n A ca B cb a b) w h1.ok).mono fun e w' ⟨h, hb⟩ => by
    refine ⟨?_, hb⟩
    unfold QFloorRes at h
    rw [if_pos (check1_zero (h1.proper (by omega)) (h1.long (by omega)))] at h
    simp only [qof, valOf_limbs] at h
    exact h
theorem sameQuo_f (h1 : QF w n A ca B cb a b k) (h2 : QF w m C cc D cd x y l) (hk : k ≤ 512) (hl : l ≤ 512) (he : rq n a b = rq m x y) :
    Calls Tryd.prog 23 #[qv n A (limbs a).length ca B (limbs b).length cb, qv m C (limbs x).length cc D (limbs y).length cd] w fun e w' => e = .returned (.bool true) ∧ Below w.heap.size w w' := by
  obtain ⟨rfl, rfl, rfl⟩ := rq_inj h1.pr h2.pr he
  have g1 := h1.2.2.2
  have g2 := h2.2.2.2
  exact sameQuo_any (qof n A ca B cb a b) (qof n C cc D cd a b) w h1.ok h2.ok (show (limbs a).length ≤ 4294967296 by omega) (show (limbs b).length ≤ 4294967296 by omega) (show (limbs a).length ≤ 4294967296 by omega) (show (limbs b).length ≤ 4294967296 by omega) rfl rfl rfl
end
theorem quo_one (w : World) : Calls Tryd.prog 55 #[.bool false, .int .u64 1, .int .u64 1] w fun e w' => (∃ A c B d, e = .returned (qv false A (limbs 1).length c B (limbs 1).length d) ∧ QF w' false A c B d 1 1 1) ∧ Below w.heap.size w w' :=
  (quo_any false 1 1 w (by decide) (by decide)).mono fun e w' ⟨⟨A, c, B, d, h1, h2, h3⟩, hb⟩ => by
    have h4 : (limbs 1).length ≤ 1 := limbs_len_le (by decide)
    exact ⟨⟨A, c, B, d, h1, h2, h3, ⟨by decide, by decide, by simp⟩, h4, h4⟩, hb⟩
/-- what a proper fraction is that is handed in -/
theorem QV.qf {p : QV} {w : World} {k : Nat} (h : p.ok w) (hp : p.proper = true) (h1 : p.n ≤ k) (h2 : p.m ≤ k) :
    p.n = (limbs (valOf p.la)).length ∧ p.m = (limbs (valOf p.lb)).length ∧ QF w p.neg p.A p.c p.B p.d (valOf p.la) (valOf p.lb) k := by
  have F := QV.fine h hp
  have e1 := F.num.1.len
  have e2 := F.den.1.len
  refine ⟨e1.symm, e2.symm, ?_, ?_, ⟨F.pos, F.one, F.neg⟩, by omega, by omega⟩
  · rw [e1]; exact F.num
  · rw [e2]; exact F.den
end Go.Proofs.YtgjbaamhpapeeaaDoor
