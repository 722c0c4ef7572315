/- Plain law: products of powers of six primes against powers of 2, as rational numbers: an ordered group. No program in sight. Plain law: what Floor, Cents and Cmp tell of products of powers of six primes. No program in sight. Plain law: Cents of a product, of two ratios in order, of a ratio without its octaves. No program in sight. Plain law: Floor and Cents of ratios without errors. No program in sight. Chapter 04: the law RatiosCents: what its calls answer, and the walk. (Printed by gencents.py.) -/
import Derived.Test.YtmcoadmnkelkkaaDoorRatW
import Derived.Test.YtmcoadmnkelkkaaDoorRatK
import Derived.Test.YtmcoadmnkelkkaaDoorOrdA
import Derived.Test.YtmcoadmnkelkkaaDoorMulA
import Derived.Test.YtmcoadmnkelkkaaDoorRatN
namespace Go.Proofs.YtmcoadmnkelkkaaDoor
set_option linter.unusedSimpArgs false
set_option linter.unusedVariables false

theorem rmul_le {a b c d : Rat} (h1 : a ≤ b) (h2 : c ≤ d) (hc : 0 < c) (hb : 0 < b) : a * c ≤ b * d :=
  Rat.le_trans (Rat.mul_le_mul_of_nonneg_right h1 (Rat.le_of_lt hc)) (Rat.mul_le_mul_of_nonneg_left h2 (Rat.le_of_lt hb))
theorem rlt_of_le {a b c : Rat} (h1 : a < b) (h2 : b ≤ c) : a < c := Rat.not_le.1 fun h => Rat.not_le.2 h1 (Rat.le_trans h2 h)
theorem rlt_of_lt {a b c : Rat} (h1 : a ≤ b) (h2 : b < c) : a < c := Rat.not_le.1 fun h => Rat.not_le.2 h2 (Rat.le_trans h h1)
theorem rmul_lt {a b c d : Rat} (h1 : a < b) (h2 : c ≤ d) (hc : 0 < c) (hb : 0 < b) : a * c < b * d :=
  rlt_of_le (Rat.mul_lt_mul_of_pos_right h1 hc) (Rat.mul_le_mul_of_nonneg_left h2 (Rat.le_of_lt hb))
theorem rcancel {a b c : Rat} (hc : 0 < c) (h : a * c ≤ b * c) : a ≤ b := Rat.not_lt.1 fun hl => Rat.not_le.2 (Rat.mul_lt_mul_of_pos_right hl hc) h
theorem rcancel_lt {a b c : Rat} (hc : 0 < c) (h : a * c < b * c) : a < b := Rat.not_le.1 fun hl => Rat.not_lt.2 (Rat.mul_le_mul_of_nonneg_right hl (Rat.le_of_lt hc)) h
theorem two_ne : (2 : Rat) ≠ 0 := by decide
theorem two_pos : (0 : Rat) < 2 := by decide
theorem one_lt_two_pow : ∀ n : Nat, (1 : Rat) < 2 ^ (((n + 1 : Nat)) : Int)
  | 0 => by rw [Rat.zpow_natCast]; decide
  | n+1 => by
    have ih := one_lt_two_pow n
    rw [show (((n + 1 + 1 : Nat)) : Int) = ((n + 1 : Nat) : Int) + 1 by omega, Rat.zpow_add two_ne, Rat.zpow_one]
    have : (1 : Rat) * 1 < 2 ^ (((n + 1 : Nat)) : Int) * 2 := rmul_lt ih (by decide) (by decide) (Rat.zpow_pos two_pos)
    rwa [Rat.mul_one] at this
theorem two_lt {x y : Int} (h : x < y) : (2 : Rat) ^ x < 2 ^ y := by
  obtain ⟨n, hn⟩ : ∃ n : Nat, y = x + ((n + 1 : Nat) : Int) := ⟨(y - x - 1).toNat, by omega⟩
  have h1 := one_lt_two_pow n
  have h2 := Rat.mul_lt_mul_of_pos_left h1 (Rat.zpow_pos (n := x) two_pos)
  rw [hn, Rat.zpow_add two_ne]
  rwa [Rat.mul_one] at h2
theorem two_le {x y : Int} (h : x ≤ y) : (2 : Rat) ^ x ≤ 2 ^ y := by
  rcases Int.lt_or_eq_of_le h with h | rfl
  · exact Rat.le_of_lt (two_lt h)
  · exact Rat.le_refl
/-- the product of six primes with exponents f -/
def pv (f : Nat → Int) : Nat → Rat
  | 0 => 1
  | i+1 => pv f i * ((prime i : Nat) : Rat) ^ (f i)
theorem prime_pos {i : Nat} (hi : i < 6) : (0 : Rat) < ((prime i : Nat) : Rat) := by
  have := (prime_two hi).1
  exact Rat.natCast_pos.2 (by omega)
theorem pv_pos (f : Nat → Int) : ∀ i, i ≤ 6 → 0 < pv f i
  | 0, _ => by unfold pv; decide
  | i+1, hi => Rat.mul_pos (pv_pos f i (by omega)) (Rat.zpow_pos (prime_pos (by omega)))
theorem pv_congr {f g : Nat → Int} : ∀ i, (∀ j, j < i → f j = g j) → pv f i = pv g i
  | 0, _ => rfl
  | i+1, h => by rw [pv, pv, pv_congr i fun j hj => h j (by omega), h i (by omega)]
theorem pv_add (f g : Nat → Int) : ∀ i, i ≤ 6 → pv (fun j => f j + g j) i = pv f i * pv g i
  | 0, _ => by unfold pv; rw [Rat.mul_one]
  | i+1, hi => by
    rw [pv, pv, pv, pv_add f g i (by omega), Rat.zpow_add (Rat.ne_of_gt (prime_pos (by omega)))]
    grind
theorem pv_zero : ∀ i, pv (fun _ => 0) i = 1
  | 0 => rfl
  | i+1 => by rw [pv, pv_zero i, Rat.zpow_zero, Rat.mul_one]
/-- 2^x is at most, less than, equal to the product -/
def TT (x : Int) (f : Nat → Int) : Prop := (2 : Rat) ^ x ≤ pv f 6
def SS (x : Int) (f : Nat → Int) : Prop := pv f 6 < (2 : Rat) ^ x
def QQ (x : Int) (f : Nat → Int) : Prop := pv f 6 = (2 : Rat) ^ x
theorem not_TT {x : Int} {f : Nat → Int} : ¬ TT x f ↔ SS x f := Rat.not_le
theorem not_SS {x : Int} {f : Nat → Int} : ¬ SS x f ↔ TT x f := Rat.not_lt
theorem TT.lt {x y : Int} {f : Nat → Int} (h : TT x f) (h2 : SS y f) : x < y := by
  rcases Int.lt_or_le x y with h0 | h0
  · exact h0
  · exact absurd (rlt_of_le h2 (two_le h0)) (Rat.not_lt.2 h)
theorem TT.add {x y : Int} {f g : Nat → Int} (h1 : TT x f) (h2 : TT y g) : TT (x + y) (fun j => f j + g j) := by
  unfold TT
  rw [pv_add f g 6 (Nat.le_refl _), Rat.zpow_add two_ne]
  exact rmul_le h1 h2 (Rat.zpow_pos two_pos) (pv_pos f 6 (Nat.le_refl _))
theorem SS.add {x y : Int} {f g : Nat → Int} (h1 : SS x f) (h2 : SS y g) : SS (x + y) (fun j => f j + g j) := by
  unfold SS
  rw [pv_add f g 6 (Nat.le_refl _), Rat.zpow_add two_ne]
  exact rmul_lt h1 (Rat.le_of_lt h2) (pv_pos g 6 (Nat.le_refl _)) (Rat.zpow_pos two_pos)
theorem QQ.add {x y : Int} {f g : Nat → Int} (h1 : QQ x f) (h2 : QQ y g) : QQ (x + y) (fun j => f j + g j) := by
  unfold QQ at *
  rw [pv_add f g 6 (Nat.le_refl _), Rat.zpow_add two_ne, h1, h2]
theorem TT.congr {x : Int} {f g : Nat → Int} (h : TT x f) (e : ∀ j, j < 6 → f j = g j) : TT x g := by unfold TT at *; rwa [← pv_congr 6 e]
theorem SS.congr {x : Int} {f g : Nat → Int} (h : SS x f) (e : ∀ j, j < 6 → f j = g j) : SS x g := by unfold SS at *; rwa [← pv_congr 6 e]
theorem QQ.congr {x : Int} {f g : Nat → Int} (h : QQ x f) (e : ∀ j, j < 6 → f j = g j) : QQ x g := by unfold QQ at *; rwa [← pv_congr 6 e]
theorem TT.scale {x : Int} {f : Nat → Int} (h : TT x f) : ∀ n : Nat, TT (x * n) (fun j => f j * n)
  | 0 => by
    unfold TT
    simp only [Int.natCast_zero, Int.mul_zero]
    rw [pv_zero, Rat.zpow_zero]
    exact Rat.le_refl
  | n+1 => by
    have := (TT.scale h n).add h
    rw [show x * ((n + 1 : Nat) : Int) = x * n + x by rw [Int.natCast_succ, Int.mul_add, Int.mul_one]]
    exact this.congr fun j _ => by rw [Int.natCast_succ, Int.mul_add, Int.mul_one]
theorem SS.scale {x : Int} {f : Nat → Int} (h : SS x f) : ∀ n : Nat, SS (x * (n + 1 : Nat)) (fun j => f j * (n + 1 : Nat))
  | 0 => by simpa using h
  | n+1 => by
    have := (SS.scale h n).add h
    rw [show x * ((n + 1 + 1 : Nat) : Int) = x * ((n + 1 : Nat) : Int) + x by rw [Int.natCast_succ (n + 1), Int.mul_add, Int.mul_one]]
    exact this.congr fun j _ => by rw [Int.natCast_succ (n + 1), Int.mul_add, Int.mul_one]
theorem QQ.scale {x : Int} {f : Nat → Int} (h : QQ x f) : ∀ n : Nat, QQ (x * n) (fun j => f j * n)
  | 0 => by
    unfold QQ
    simp only [Int.natCast_zero, Int.mul_zero]
    rw [pv_zero, Rat.zpow_zero]
  | n+1 => by
    have := (QQ.scale h n).add h
    rw [show x * ((n + 1 : Nat) : Int) = x * n + x by rw [Int.natCast_succ, Int.mul_add, Int.mul_one]]
    exact this.congr fun j _ => by rw [Int.natCast_succ, Int.mul_add, Int.mul_one]
theorem SS.scale' {x : Int} {f : Nat → Int} (h : SS x f) {n : Nat} (hn : 0 < n) : SS (x * n) (fun j => f j * n) := by
  obtain ⟨m, rfl⟩ : ∃ m, n = m + 1 := ⟨n - 1, by omega⟩
  exact h.scale m
theorem TT.unscale {x : Int} {f : Nat → Int} {n : Nat} (hn : 0 < n) (h : TT (x * n) (fun j => f j * n)) : TT x f :=
  not_SS.1 fun hs => not_SS.2 h (hs.scale' hn)
theorem SS.unscale {x : Int} {f : Nat → Int} {n : Nat} (h : SS (x * n) (fun j => f j * n)) : SS x f :=
  not_TT.1 fun ht => not_TT.2 h (ht.scale n)
/-- the product is more than a power of 2 -/
def GG (x : Int) (f : Nat → Int) : Prop := (2 : Rat) ^ x < pv f 6
theorem GG.add {x y : Int} {f g : Nat → Int} (h1 : GG x f) (h2 : GG y g) : GG (x + y) (fun j => f j + g j) := by
  unfold GG
  rw [pv_add f g 6 (Nat.le_refl _), Rat.zpow_add two_ne]
  exact rmul_lt h1 (Rat.le_of_lt h2) (Rat.zpow_pos two_pos) (pv_pos f 6 (Nat.le_refl _))
theorem GG.congr {x : Int} {f g : Nat → Int} (h : GG x f) (e : ∀ j, j < 6 → f j = g j) : GG x g := by unfold GG at *; rwa [← pv_congr 6 e]
theorem GG.scale {x : Int} {f : Nat → Int} (h : GG x f) : ∀ n : Nat, GG (x * (n + 1 : Nat)) (fun j => f j * (n + 1 : Nat))
  | 0 => by simpa using h
  | n+1 => by
    have := (GG.scale h n).add h
    rw [show x * ((n + 1 + 1 : Nat) : Int) = x * ((n + 1 : Nat) : Int) + x by rw [Int.natCast_succ (n + 1), Int.mul_add, Int.mul_one]]
    exact this.congr fun j _ => by rw [Int.natCast_succ (n + 1), Int.mul_add, Int.mul_one]
theorem QQ.unscale {x : Int} {f : Nat → Int} {n : Nat} (hn : 0 < n) (h : QQ (x * n) (fun j => f j * n)) : QQ x f := by
  obtain ⟨m, rfl⟩ : ∃ m, n = m + 1 := ⟨n - 1, by omega⟩
  have hT : TT x f := TT.unscale hn (show (2 : Rat) ^ _ ≤ _ by rw [h]; exact Rat.le_refl)
  refine Rat.le_antisymm (Rat.not_lt.1 fun hg => ?_) hT
  have h2 : GG (x * ((m + 1 : Nat) : Int)) (fun j => f j * ((m + 1 : Nat) : Int)) := GG.scale hg m
  unfold GG at h2
  rw [h] at h2
  exact Rat.lt_irrefl h2
/-- the value of a list of powers -/
def vl : List (Nat × Int) → Rat
  | [] => 1
  | (n, k) :: l => ((n : Nat) : Rat) ^ k * vl l
theorem vl_pos : ∀ {l : List (Nat × Int)}, (∀ x ∈ l, 0 < x.1) → 0 < vl l
  | [], _ => by unfold vl; decide
  | (n, k) :: l, h => Rat.mul_pos (Rat.zpow_pos (Rat.natCast_pos.2 (h _ List.mem_cons_self))) (vl_pos fun x hx => h x (List.mem_cons_of_mem _ hx))
theorem vl_append : ∀ l m : List (Nat × Int), vl (l ++ m) = vl l * vl m
  | [], m => by rw [List.nil_append, vl]; grind
  | (n, k) :: l, m => by rw [List.cons_append, vl, vl, vl_append l m]; grind
theorem vl_up : ∀ {l : List (Nat × Int)}, (∀ x ∈ l, 0 < x.1) → vl l * ((down l : Nat) : Rat) = ((up l : Nat) : Rat)
  | [], _ => by unfold vl up down; rw [Rat.one_mul]
  | (n, k) :: l, h => by
    have ih := vl_up fun x hx => h x (List.mem_cons_of_mem _ hx)
    have hn : ((n : Nat) : Rat) ≠ 0 := Rat.ne_of_gt (Rat.natCast_pos.2 (h _ List.mem_cons_self))
    rw [vl, up, down]
    split
    · rename_i h0
      rw [Rat.natCast_mul, Rat.natCast_pow, ← Rat.zpow_natCast, show ((k.natAbs : Nat) : Int) = k by omega, ← ih]
      grind
    · rename_i h0
      rw [Rat.natCast_mul, Rat.natCast_pow, ← Rat.zpow_natCast, ← ih]
      have e : ((n : Nat) : Rat) ^ k * ((n : Nat) : Rat) ^ ((k.natAbs : Nat) : Int) = 1 := by
        rw [← Rat.zpow_add hn, show k + ((k.natAbs : Nat) : Int) = 0 by omega, Rat.zpow_zero]
      generalize ((n : Nat) : Rat) ^ k = a at *
      generalize ((n : Nat) : Rat) ^ ((k.natAbs : Nat) : Int) = b at *
      grind
theorem down_pos : ∀ {l : List (Nat × Int)}, (∀ x ∈ l, 0 < x.1) → 0 < down l
  | [], _ => by unfold down; decide
  | (n, k) :: l, h => by
    have ih := down_pos fun x hx => h x (List.mem_cons_of_mem _ hx)
    rw [down]
    split
    · exact ih
    · exact Nat.mul_pos (Nat.pow_pos (h _ List.mem_cons_self)) ih
theorem sgn_vl {l : List (Nat × Int)} (h : ∀ x ∈ l, 0 < x.1) : (0 ≤ sgn l ↔ 1 ≤ vl l) ∧ (sgn l ≤ 0 ↔ vl l ≤ 1) := by
  have h1 := vl_up h
  have hd : (0 : Rat) < ((down l : Nat) : Rat) := Rat.natCast_pos.2 (down_pos h)
  have e1 : (1 : Rat) ≤ vl l ↔ down l ≤ up l := by
    rw [← Rat.natCast_le_natCast, ← h1]
    exact ⟨fun g => by have := Rat.mul_le_mul_of_nonneg_right g (Rat.le_of_lt hd); rwa [Rat.one_mul] at this, fun g => rcancel hd (by rwa [Rat.one_mul])⟩
  have e2 : vl l ≤ 1 ↔ up l ≤ down l := by
    rw [← Rat.natCast_le_natCast, ← h1]
    exact ⟨fun g => by have := Rat.mul_le_mul_of_nonneg_right g (Rat.le_of_lt hd); rwa [Rat.one_mul] at this, fun g => rcancel hd (by rwa [Rat.one_mul])⟩
  rw [e1, e2]
  unfold sgn
  constructor
  · split
    · exact ⟨fun _ => by omega, fun _ => by decide⟩
    · split
      · exact ⟨fun g => absurd g (by decide), fun g => by omega⟩
      · exact ⟨fun _ => by omega, fun _ => by decide⟩
  · split
    · exact ⟨fun g => absurd g (by decide), fun g => by omega⟩
    · split
      · exact ⟨fun _ => by omega, fun _ => by decide⟩
      · exact ⟨fun _ => by omega, fun _ => by decide⟩
end Go.Proofs.YtmcoadmnkelkkaaDoor
namespace Go.Proofs.YtmcoadmnkelkkaaDoor
set_option linter.unusedSimpArgs false
set_option linter.unusedVariables false

theorem vl_scaled (r : RV) (s : Int) : ∀ i, vl (scaled (termsN r i) s) = pv (fun j => r.num j * s) i
  | 0 => rfl
  | i+1 => by
    rw [termsN, pv, ← vl_scaled r s i]
    split
    · rename_i h
      rw [h, Int.zero_mul, Rat.zpow_zero, Rat.mul_one]
    · rw [scaled_snoc, vl_append, vl, vl, Rat.mul_one]
theorem vl_cmpT (a b : RV) : ∀ i, vl (cmpT a b i) = pv (fun j => a.num j * b.d - b.num j * a.d) i
  | 0 => rfl
  | i+1 => by rw [cmpT, vl_append, vl, vl, Rat.mul_one, pv, vl_cmpT a b i]
theorem two_inv (x : Int) : (2 : Rat) ^ (-x) * 2 ^ x = 1 := by rw [← Rat.zpow_add two_ne, show -x + x = 0 by omega, Rat.zpow_zero]
theorem atM_pos (r : RV) (s den m : Int) : ∀ x ∈ atM (termsN r 6) s den m, 0 < x.1 := by
  intro x hx
  unfold atM at hx
  rw [List.mem_append] at hx
  rcases hx with hx | hx
  · unfold scaled at hx
    obtain ⟨y, hy, rfl⟩ := List.mem_map.1 hx
    obtain ⟨j, hj, rfl⟩ := mem_termsN r 6 (Nat.le_refl _) y hy
    have := (prime_two hj).1
    show 0 < prime j
    omega
  · simp only [List.mem_singleton] at hx
    subst hx
    show 0 < 2
    decide
theorem atM_vl (r : RV) (s den m : Int) : vl (atM (termsN r 6) s den m) * 2 ^ (m * den) = pv (fun j => r.num j * s) 6 := by
  unfold atM
  rw [vl_append, vl_scaled, vl, vl, Rat.mul_one, Int.neg_mul]
  have := two_inv (m * den)
  generalize pv (fun j => r.num j * s) 6 = p at *
  rw [Rat.mul_assoc]
  show p * ((2 : Rat) ^ (-(m * den)) * 2 ^ (m * den)) = p
  rw [this, Rat.mul_one]
theorem sgM_TT (r : RV) (s den m : Int) : 0 ≤ sgn (atM (termsN r 6) s den m) ↔ TT (m * den) (fun j => r.num j * s) := by
  rw [(sgn_vl (atM_pos r s den m)).1]
  unfold TT
  rw [← atM_vl r s den m]
  have hp : (0 : Rat) < 2 ^ (m * den) := Rat.zpow_pos two_pos
  exact ⟨fun g => by have := Rat.mul_le_mul_of_nonneg_right g (Rat.le_of_lt hp); rwa [Rat.one_mul] at this, fun g => rcancel hp (by rwa [Rat.one_mul])⟩
theorem sgM_SS (r : RV) (s den m : Int) : sgn (atM (termsN r 6) s den m) < 0 ↔ SS (m * den) (fun j => r.num j * s) := by
  rw [← not_TT, ← sgM_TT]; omega
theorem sgn_eq {l : List (Nat × Int)} : up l = down l ↔ sgn l = 0 := by
  refine ⟨sgn_one, fun h => ?_⟩
  unfold sgn at h
  split at h
  · exact absurd h (by decide)
  · split at h
    · exact absurd h (by decide)
    · omega
theorem sgM_QQ (r : RV) (s den m : Int) : up (atM (termsN r 6) s den m) = down (atM (termsN r 6) s den m) ↔ QQ (m * den) (fun j => r.num j * s) := by
  rw [sgn_eq]
  have h := sgn_vl (atM_pos r s den m)
  have hv := atM_vl r s den m
  have e : sgn (atM (termsN r 6) s den m) = 0 ↔ vl (atM (termsN r 6) s den m) = 1 := by
    constructor
    · intro g
      exact Rat.le_antisymm (h.2.1 (by omega)) (h.1.1 (by omega))
    · intro g
      have a := h.1.2 (by rw [g]; exact Rat.le_refl)
      have b := h.2.2 (by rw [g]; exact Rat.le_refl)
      omega
  rw [e]
  unfold QQ
  rw [← hv]
  constructor
  · intro g; rw [g, Rat.one_mul]
  · intro g
    have hp : (0 : Rat) < 2 ^ (m * den) := Rat.zpow_pos two_pos
    exact Rat.le_antisymm (rcancel hp (by rw [g, Rat.one_mul]; exact Rat.le_refl)) (rcancel hp (by rw [g, Rat.one_mul]; exact Rat.le_refl))
theorem cmp_pos (a b : RV) : ∀ x ∈ cmpT a b 6, 0 < x.1 := by
  intro x hx
  obtain ⟨j, hj, rfl⟩ := cmpT_mem a b 6 (Nat.le_refl _) x hx
  have := (prime_two hj).1
  show 0 < prime j
  omega
theorem cmp_TT (a b : RV) : 0 ≤ sgn (cmpT a b 6) ↔ TT 0 (fun j => a.num j * b.d - b.num j * a.d) := by
  rw [(sgn_vl (cmp_pos a b)).1, vl_cmpT]
  unfold TT
  rw [Rat.zpow_zero]
theorem cmp_SS (a b : RV) : sgn (cmpT a b 6) < 0 ↔ SS 0 (fun j => a.num j * b.d - b.num j * a.d) := by
  rw [← not_TT, ← cmp_TT]; omega
theorem cmp_QQ {a b : RV} (h : sgn (cmpT a b 6) = 0) : QQ 0 (fun j => a.num j * b.d - b.num j * a.d) := by
  have hs := sgn_vl (cmp_pos a b)
  rw [vl_cmpT] at hs
  unfold QQ
  rw [Rat.zpow_zero]
  exact Rat.le_antisymm (hs.2.1 (by omega)) (hs.1.1 (by omega))
/-- what Cents tells of a ratio -/
structure Ce (r : RV) (m : Int) (b : Bool) : Prop where
  ok : checkS r = 0
  lo : TT (m * r.d) (fun j => r.num j * 1200000)
  hi : SS ((m + 1) * r.d) (fun j => r.num j * 1200000)
  ex : b = true ↔ QQ (m * r.d) (fun j => r.num j * 1200000)
theorem Ce.of {r : RV} {m er : Int} {b : Bool} (h : CentsRes (.returned (.tuple #[.int .i64 m, .bool b, .int .i64 er])) r) (he : er = 0) : Ce r m b := by
  by_cases h0 : checkS r = 0
  · have h1 := h.2 h0
    unfold FloorRes at h1
    split at h1
    · injection h1 with h1
      injection h1 with h1
      simp at h1
      omega
    · obtain ⟨m', _, _, g1, g2, h1⟩ := h1
      injection h1 with h1
      injection h1 with h1
      simp at h1
      obtain ⟨rfl, hb, _⟩ := h1
      refine ⟨h0, (sgM_TT r 1200000 r.d m).1 g1, (sgM_SS r 1200000 r.d (m + 1)).1 g2, ?_⟩
      rw [← sgM_QQ, hb]
      exact decide_eq_true_iff
  · have h1 := h.1 h0
    injection h1 with h1
    injection h1 with h1
    simp at h1
    exact absurd (h1.2.2.symm.trans he) h0
/-- lowest terms -/
theorem mkR_numg (R : RV) {j : Nat} (hj : j < 6) : (mkR R).num j * ((R.gcd 6 : Nat) : Int) = R.num j := by
  rw [mkR_num R hj]
  exact Int.tdiv_mul_cancel (Int.ofNat_dvd_left.2 ((RV.gcd_dvd R 6).2 j hj))
theorem mkR_dg (R : RV) : (mkR R).d * ((R.gcd 6 : Nat) : Int) = R.d := Int.tdiv_mul_cancel (Int.ofNat_dvd_left.2 (RV.gcd_dvd R 6).1)
theorem madeS_is {R q : RV} (h : madeS R = (q, 0)) : q = mkR R := by
  unfold madeS at h
  split at h
  · injection h with h1 _; exact h1.symm
  · injection h with _ h2; exact absurd h2 (by decide)
end Go.Proofs.YtmcoadmnkelkkaaDoor
namespace Go.Proofs.YtmcoadmnkelkkaaDoor
set_option linter.unusedSimpArgs false
set_option linter.unusedVariables false

theorem QQ.tt {x : Int} {f : Nat → Int} (h : QQ x f) : TT x f := by unfold TT; rw [h]; exact Rat.le_refl
theorem QQ.neg {x : Int} {f : Nat → Int} (h : QQ x f) : QQ (-x) (fun j => -f j) := by
  unfold QQ at *
  have h1 := pv_add f (fun j => -f j) 6 (Nat.le_refl _)
  have h2 : pv (fun j => f j + -f j) 6 = 1 := by rw [pv_congr (g := fun _ => 0) 6 (fun j _ => by show f j + -f j = 0; omega), pv_zero]
  rw [h2, h] at h1
  have h3 := two_inv x
  have hp : (0 : Rat) < 2 ^ x := Rat.zpow_pos two_pos
  refine Rat.le_antisymm (rcancel hp ?_) (rcancel hp ?_)
  · rw [h3, h1, Rat.mul_comm]; exact Rat.le_refl
  · rw [h3, h1, Rat.mul_comm]; exact Rat.le_refl
theorem SS.addQ {x y : Int} {f g : Nat → Int} (h1 : SS x f) (h2 : QQ y g) : SS (x + y) (fun j => f j + g j) := by
  unfold SS at *
  rw [pv_add f g 6 (Nat.le_refl _), Rat.zpow_add two_ne, h2]
  exact Rat.mul_lt_mul_of_pos_right h1 (Rat.zpow_pos two_pos)
theorem TT.qle {x y : Int} {f : Nat → Int} (h1 : TT x f) (h2 : QQ y f) : x ≤ y := by
  rcases Int.lt_or_le y x with h | h
  · exfalso
    unfold TT at h1
    rw [h2] at h1
    exact Rat.not_lt.2 h1 (two_lt h)
  · exact h
theorem TT.cast {x y : Int} {f g : Nat → Int} (h : TT x f) (e : x = y) (e2 : ∀ j, j < 6 → f j = g j) : TT y g := e ▸ h.congr e2
theorem SS.cast {x y : Int} {f g : Nat → Int} (h : SS x f) (e : x = y) (e2 : ∀ j, j < 6 → f j = g j) : SS y g := e ▸ h.congr e2
theorem QQ.cast {x y : Int} {f g : Nat → Int} (h : QQ x f) (e : x = y) (e2 : ∀ j, j < 6 → f j = g j) : QQ y g := e ▸ h.congr e2
theorem lt_of_mul_lt {a b d : Int} (hd : 1 ≤ d) (h : a * d < b * d) : a < b := by
  rcases Int.lt_or_le a b with g | g
  · exact g
  · exact absurd (Int.mul_le_mul_of_nonneg_right g (by omega : 0 ≤ d)) (by omega)
theorem le_of_mul_le {a b d : Int} (hd : 1 ≤ d) (h : a * d ≤ b * d) : a ≤ b := by
  rcases Int.lt_or_le b a with g | g
  · exact absurd (Int.mul_lt_mul_of_pos_right g (by omega : 0 < d)) (by omega)
  · exact g
/-- Cents of a product is the sum, or one more -/
theorem cents_mul {a b ab : RV} {m n k : Int} {is was so : Bool} (ha : Ce a m is) (hb : Ce b n was) (hab : madeS (joinR a b 1) = (ab, 0)) (hk : Ce ab k so) :
    (k = m + n ∨ k = m + n + 1) ∧ (is = true → was = true → so = true ∧ k = m + n) := by
  obtain ⟨a1, _, _⟩ := checkS_ok ha.ok
  obtain ⟨b1, _, _⟩ := checkS_ok hb.ok
  obtain ⟨ad, hadn⟩ : ∃ x : Nat, (x : Int) = a.d := ⟨a.d.toNat, by omega⟩
  obtain ⟨bd, hbdn⟩ : ∃ x : Nat, (x : Int) = b.d := ⟨b.d.toNat, by omega⟩
  have hq := madeS_is hab
  obtain ⟨g, hg⟩ : ∃ g, (joinR a b 1).gcd 6 = g := ⟨_, rfl⟩
  have hJd : (joinR a b 1).d = a.d * b.d := rfl
  have hD : 1 ≤ a.d * b.d := by
    have := Int.mul_le_mul a1.1 b1.1 (by decide) (by omega : (0 : Int) ≤ a.d)
    omega
  have hg0 : 0 < g := by rw [← hg]; exact (RV.gcd_pos (by rw [hJd]; exact hD) 6).1
  have hdg : ab.d * (g : Int) = a.d * b.d := by rw [hq, ← hJd, ← hg]; exact mkR_dg _
  have hng : ∀ j, j < 6 → ab.num j * (g : Int) = a.num j * b.d + 1 * b.num j * a.d := fun j hj => by
    rw [hq, ← hg, mkR_numg _ hj]; exact RV.of_num _ _ hj
  -- the sums
  have eF : ∀ j, j < 6 → a.num j * 1200000 * (bd : Int) + b.num j * 1200000 * (ad : Int) = ab.num j * 1200000 * (g : Int) := fun j hj => by
    have := hng j hj
    rw [hbdn, hadn, show ab.num j * 1200000 * (g : Int) = ab.num j * (g : Int) * 1200000 by rw [Int.mul_right_comm], this]
    grind
  have t1 := ((ha.lo.scale bd).add (hb.lo.scale ad)).cast (y := (m + n) * (a.d * b.d)) (by rw [hbdn, hadn]; grind) eF
  have s1 := ((ha.hi.scale' (n := bd) (by omega)).add (hb.hi.scale' (n := ad) (by omega))).cast (y := (m + n + 2) * (a.d * b.d)) (by rw [hbdn, hadn]; grind) eF
  have t2 := (hk.lo.scale g).cast (y := k * (a.d * b.d)) (by rw [Int.mul_assoc, hdg]) (fun j _ => rfl)
  have s2 := (hk.hi.scale' hg0).cast (y := (k + 1) * (a.d * b.d)) (by rw [Int.mul_assoc, hdg]) (fun j _ => rfl)
  have l1 := lt_of_mul_lt hD (t1.lt s2)
  have l2 := lt_of_mul_lt hD (t2.lt s1)
  refine ⟨by omega, fun hi hw => ?_⟩
  have q1 := (((ha.ex.1 hi).scale bd).add ((hb.ex.1 hw).scale ad)).cast (y := (m + n) * (a.d * b.d)) (by rw [hbdn, hadn]; grind) eF
  have hkm := le_of_mul_le hD (t2.qle q1)
  have e : k = m + n := by omega
  refine ⟨hk.ex.2 (QQ.unscale hg0 (q1.cast (by rw [Int.mul_assoc, hdg, e]) (fun j _ => rfl))), e⟩
/-- a greater ratio has no less -/
theorem cents_cmp {a b : RV} {m n : Int} {is was : Bool} (ha : Ce a m is) (hb : Ce b n was) :
    (sgn (cmpT a b 6) < 0 → m ≤ n) ∧ (0 < sgn (cmpT a b 6) → n ≤ m) ∧ (sgn (cmpT a b 6) = 0 → m = n ∧ is = was) := by
  obtain ⟨a1, _, _⟩ := checkS_ok ha.ok
  obtain ⟨b1, _, _⟩ := checkS_ok hb.ok
  obtain ⟨ad, hadn⟩ : ∃ x : Nat, (x : Int) = a.d := ⟨a.d.toNat, by omega⟩
  obtain ⟨bd, hbdn⟩ : ∃ x : Nat, (x : Int) = b.d := ⟨b.d.toNat, by omega⟩
  have hD : 1 ≤ a.d * b.d := by
    have := Int.mul_le_mul a1.1 b1.1 (by decide) (by omega : (0 : Int) ≤ a.d)
    omega
  have eF : ∀ j, j < 6 → b.num j * 1200000 * (ad : Int) + (a.num j * b.d - b.num j * a.d) * ((1200000 : Nat) : Int) = a.num j * 1200000 * (bd : Int) := fun j _ => by
    rw [hbdn, hadn]
    show b.num j * 1200000 * a.d + (a.num j * b.d - b.num j * a.d) * 1200000 = a.num j * 1200000 * b.d
    grind
  have tA := (ha.lo.scale bd).cast (y := m * (a.d * b.d)) (by rw [hbdn]; grind) (fun j _ => rfl)
  have sA := (ha.hi.scale' (n := bd) (by omega)).cast (y := (m + 1) * (a.d * b.d)) (by rw [hbdn]; grind) (fun j _ => rfl)
  have tB := hb.lo.scale ad
  have sB := hb.hi.scale' (n := ad) (by omega)
  refine ⟨fun h => ?_, fun h => ?_, fun h => ?_⟩
  · have hH := (cmp_SS a b).1 h
    have s1 := (sB.add (hH.scale' (n := 1200000) (by decide))).cast (y := (n + 1) * (a.d * b.d)) (by rw [hadn]; grind) eF
    have := lt_of_mul_lt hD (tA.lt s1)
    omega
  · have hH := (cmp_TT a b).1 (by omega)
    have t1 := (tB.add (hH.scale 1200000)).cast (y := n * (a.d * b.d)) (by rw [hadn]; grind) eF
    have := lt_of_mul_lt hD (t1.lt sA)
    omega
  · have hH := (cmp_QQ h).scale 1200000
    have t1 := (tB.add hH.tt).cast (y := n * (a.d * b.d)) (by rw [hadn]; grind) eF
    have s1 := (sB.addQ hH).cast (y := (n + 1) * (a.d * b.d)) (by rw [hadn]; grind) eF
    have l1 := lt_of_mul_lt hD (t1.lt sA)
    have l2 := lt_of_mul_lt hD (tA.lt s1)
    have e : m = n := by omega
    refine ⟨e, ?_⟩
    rw [Bool.eq_iff_iff, ha.ex, hb.ex]
    constructor
    · intro q
      have q1 := (q.scale bd).add hH.neg
      exact QQ.unscale (n := ad) (by omega) (q1.cast (by rw [hbdn, hadn, e]; grind) (fun j hj => by
        have := eF j hj
        omega))
    · intro q
      have q1 := (q.scale ad).add hH
      exact QQ.unscale (n := bd) (by omega) (q1.cast (by rw [hbdn, hadn, e]; grind) eF)
/-- a power of 2 as exponents -/
theorem oct_QQ (y : Int) : QQ y (fun j => if j = 0 then y else 0) := by
  unfold QQ
  have h : ∀ i, pv (fun j => if j = 0 then y else 0) (i + 1) = (2 : Rat) ^ y := by
    intro i
    induction i with
    | zero =>
      rw [pv, pv, if_pos rfl, Rat.one_mul]
      rfl
    | succ i ih => rw [pv, ih, if_neg (by omega), Rat.zpow_zero, Rat.mul_one]
  exact h 5
/-- Fold takes octaves off -/
theorem cents_fold {a r : RV} {m k x : Int} {is so : Bool} (ha : Ce a m is) (hlo : TT (k * a.d) (fun j => a.num j * 1)) (hhi : SS ((k + 1) * a.d) (fun j => a.num j * 1)) (hr : madeS (foldR a k) = (r, 0)) :
    (TT 0 (fun j => r.num j * 1200000) ∧ SS (1200000 * r.d) (fun j => r.num j * 1200000)) ∧ 1 ≤ r.d ∧ (Ce r x so → x = m - 1200000 * k ∧ so = is ∧ 0 ≤ x ∧ x < 1200000) := by
  obtain ⟨a1, _, _⟩ := checkS_ok ha.ok
  have hq := madeS_is hr
  obtain ⟨g, hg⟩ : ∃ g, (foldR a k).gcd 6 = g := ⟨_, rfl⟩
  have hFd : (foldR a k).d = a.d := rfl
  have hg0 : 0 < g := by rw [← hg]; exact (RV.gcd_pos (by rw [hFd]; exact a1.1) 6).1
  have hdg : r.d * (g : Int) = a.d := by rw [hq, ← hFd, ← hg]; exact mkR_dg _
  have hrd : 1 ≤ r.d := by rw [hq]; exact mkR_pos _ a1.1
  have hng : ∀ j, j < 6 → r.num j * (g : Int) = a.num j * 1 + -(if j = 0 then k * a.d else 0) := fun j hj => by
    rw [hq, ← hg, mkR_numg _ hj]
    have : (foldR a k).num j = if j = 0 then a.num j - k * a.d else a.num j := RV.of_num _ _ hj
    rw [this]
    split <;> omega
  have hE := (oct_QQ (k * a.d)).neg
  have t0 := (hlo.add hE.tt).cast (y := 0) (g := fun j => r.num j * (g : Int)) (by omega) (fun j hj => (hng j hj).symm)
  have s0 := (hhi.addQ hE).cast (y := a.d) (g := fun j => r.num j * (g : Int)) (by rw [Int.add_mul, Int.one_mul]; omega) (fun j hj => (hng j hj).symm)
  have eS : ∀ j, j < 6 → r.num j * (g : Int) * ((1200000 : Nat) : Int) = r.num j * 1200000 * (g : Int) := fun j _ => by
    show r.num j * (g : Int) * 1200000 = _
    rw [Int.mul_right_comm]
  have tS : TT 0 (fun j => r.num j * 1200000) := TT.unscale hg0 ((t0.scale 1200000).cast (by simp) eS)
  have sS : SS (1200000 * r.d) (fun j => r.num j * 1200000) := SS.unscale (n := g) ((s0.scale' (n := 1200000) (by decide)).cast (by rw [Int.mul_assoc, hdg]; show a.d * 1200000 = _; rw [Int.mul_comm]) eS)
  refine ⟨⟨tS, sS⟩, hrd, fun hx => ?_⟩
  have x0 := tS.lt hx.hi
  have x1 := hx.lo.lt sS
  have x2 : 0 < x + 1 := by
    rcases Int.lt_or_le 0 (x + 1) with h | h
    · exact h
    · exact absurd (Int.mul_le_mul_of_nonneg_right h (by omega : 0 ≤ r.d)) (by omega)
  have x3 := lt_of_mul_lt hrd x1
  have hO := ((oct_QQ (k * a.d)).scale 1200000)
  have eA : ∀ j, j < 6 → r.num j * 1200000 * (g : Int) + (if j = 0 then k * a.d else 0) * ((1200000 : Nat) : Int) = a.num j * 1200000 := fun j hj => by
    have h1 := hng j hj
    rw [Int.mul_right_comm, h1]
    show (a.num j * 1 + -(if j = 0 then k * a.d else 0)) * 1200000 + (if j = 0 then k * a.d else 0) * 1200000 = _
    generalize (if j = 0 then k * a.d else 0) = z
    omega
  have t4 := ((hx.lo.scale g).add hO.tt).cast (y := (x + 1200000 * k) * a.d) (by rw [Int.mul_assoc, hdg]; show x * a.d + k * a.d * 1200000 = _; grind) eA
  have s4 := ((hx.hi.scale' hg0).addQ hO).cast (y := (x + 1200000 * k + 1) * a.d) (by rw [Int.mul_assoc, hdg]; show (x + 1) * a.d + k * a.d * 1200000 = _; grind) eA
  have l1 := lt_of_mul_lt a1.1 (t4.lt ha.hi)
  have l2 := lt_of_mul_lt a1.1 (ha.lo.lt s4)
  have e : x + 1200000 * k = m := by omega
  refine ⟨by omega, ?_, by omega, x3⟩
  rw [Bool.eq_iff_iff, hx.ex, ha.ex]
  constructor
  · intro q
    exact ((q.scale g).add hO).cast (by rw [Int.mul_assoc, hdg, ← e]; show x * a.d + k * a.d * 1200000 = _; grind) eA
  · intro q
    have q1 := q.add hO.neg
    exact QQ.unscale hg0 (q1.cast (by rw [Int.mul_assoc x, hdg, ← e]; show (x + 1200000 * k) * a.d + -(k * a.d * 1200000) = _; grind) (fun j hj => by have := eA j hj; omega))
end Go.Proofs.YtmcoadmnkelkkaaDoor
namespace Go.Proofs.YtmcoadmnkelkkaaDoor
set_option linter.unusedSimpArgs false
set_option linter.unusedVariables false

theorem prime_le {i : Nat} (hi : i < 6) (k : Int) (hk : k ≤ 100000) : ((prime i : Nat) : Rat) ^ k ≤ 2 ^ (400000 : Int) := by
  have hp := prime_two hi
  rcases Int.lt_or_le k 0 with h | h
  · obtain ⟨n, rfl⟩ : ∃ n : Nat, k = -(n : Int) := ⟨k.natAbs, by omega⟩
    have hne : ((prime i : Nat) : Rat) ≠ 0 := Rat.ne_of_gt (prime_pos hi)
    have e : ((prime i : Nat) : Rat) ^ (-(n : Int)) * ((prime i : Nat) : Rat) ^ (n : Int) = 1 := by rw [← Rat.zpow_add hne, show -(n : Int) + (n : Int) = 0 by omega, Rat.zpow_zero]
    have h1 : (1 : Rat) ≤ ((prime i : Nat) : Rat) ^ (n : Int) := by
      rw [Rat.zpow_natCast, ← Rat.natCast_pow]
      have : 1 ≤ prime i ^ n := Nat.pow_pos (by omega)
      exact Rat.natCast_le_natCast.2 this
    have h2 : ((prime i : Nat) : Rat) ^ (-(n : Int)) ≤ 1 := by
      have := Rat.mul_le_mul_of_nonneg_left h1 (Rat.le_of_lt (Rat.zpow_pos (n := -(n : Int)) (prime_pos hi)))
      rwa [Rat.mul_one, e] at this
    refine Rat.le_trans h2 ?_
    have := two_le (x := 0) (y := 400000) (by decide)
    rwa [Rat.zpow_zero] at this
  · obtain ⟨n, rfl⟩ := Int.eq_ofNat_of_zero_le h
    have h1 : prime i ^ n ≤ 2 ^ (4 * n) := by
      rw [Nat.pow_mul]
      exact Nat.pow_le_pow_left (by omega) n
    have h2 : ((prime i : Nat) : Rat) ^ (n : Int) ≤ 2 ^ ((4 * n : Nat) : Int) := by
      rw [Rat.zpow_natCast, ← Rat.natCast_pow, Rat.zpow_natCast]
      have := Rat.natCast_le_natCast.2 h1
      rwa [Rat.natCast_pow 2] at this
    exact Rat.le_trans h2 (two_le (by omega))
theorem pv_le (f : Nat → Int) (h : ∀ j, j < 6 → f j ≤ 100000) : ∀ i, i ≤ 6 → pv f i ≤ 2 ^ ((400000 * i : Nat) : Int)
  | 0, _ => by rw [pv]; exact Rat.le_refl
  | i+1, hi => by
    rw [pv, show ((400000 * (i + 1) : Nat) : Int) = ((400000 * i : Nat) : Int) + 400000 by omega, Rat.zpow_add two_ne]
    exact rmul_le (pv_le f h i (by omega)) (prime_le (by omega) _ (h i (by omega))) (Rat.zpow_pos (prime_pos (by omega))) (Rat.zpow_pos two_pos)
theorem TT.small {x : Int} {f : Nat → Int} (h : TT x f) (hf : ∀ j, j < 6 → f j ≤ 100000) : x ≤ 2400000 := by
  rcases Int.lt_or_le 2400000 x with g | g
  · exfalso
    have h1 : (2 : Rat) ^ x ≤ 2 ^ (2400000 : Int) := Rat.le_trans h (pv_le f hf 6 (Nat.le_refl _))
    exact Rat.not_lt.2 h1 (two_lt g)
  · exact g
theorem SS.small {x : Int} {f : Nat → Int} (h : SS x f) (hf : ∀ j, j < 6 → -100000 ≤ f j) : -2400000 < x := by
  rcases Int.lt_or_le (-2400000) x with g | g
  · exact g
  · exfalso
    have h1 : pv (fun j => -f j) 6 ≤ 2 ^ (2400000 : Int) := pv_le (fun j => -f j) (fun j hj => by have := hf j hj; omega) 6 (Nat.le_refl _)
    have h2 := pv_add f (fun j => -f j) 6 (Nat.le_refl _)
    rw [pv_congr (g := fun _ => 0) 6 (fun j _ => by show f j + -f j = 0; omega), pv_zero] at h2
    have h3 : pv f 6 < 2 ^ (-2400000 : Int) := rlt_of_le h (two_le g)
    have h4 := rmul_lt h3 h1 (pv_pos _ 6 (Nat.le_refl _)) (Rat.zpow_pos two_pos)
    rw [← h2, show (-2400000 : Int) = -(2400000 : Int) by rfl, two_inv] at h4
    exact Rat.lt_irrefl h4
/-- the octaves of a ratio are found -/
theorem floor_one {a : RV} (ha : checkS a = 0) {e : Ending} (h : FloorRes (termsN a 6) 1 a.d (sgR a 1) e) :
    ∃ k b, e = .returned (.tuple #[.int .i64 k, .bool b, .int .i64 0]) ∧ TT (k * a.d) (fun j => a.num j * 1) ∧ SS ((k + 1) * a.d) (fun j => a.num j * 1) := by
  obtain ⟨a1, a2, _⟩ := checkS_ok ha
  unfold FloorRes at h
  split at h
  · rename_i hc
    exfalso
    rcases hc with hc | hc
    · have hs := ((sgM_TT a 1 a.d 1000000000001).1 hc).small (fun j hj => by have := (a2 j hj).2; omega)
      have := Int.mul_le_mul_of_nonneg_left a1.1 (by decide : (0 : Int) ≤ 1000000000001)
      omega
    · have hs := ((sgM_SS a 1 a.d (-1000000000000)).1 hc).small (fun j hj => by have := (a2 j hj).1; omega)
      have := Int.mul_le_mul_of_nonneg_left a1.1 (by decide : (0 : Int) ≤ 1000000000000)
      omega
  · obtain ⟨m, _, _, g1, g2, rfl⟩ := h
    exact ⟨m, _, rfl, (sgM_TT a 1 a.d m).1 g1, (sgM_SS a 1 a.d (m + 1)).1 g2⟩
/-- Cents of a ratio from 1 to below 2 is found -/
theorem cents_near {r : RV} (h0 : checkS r = 0) (ht : TT 0 (fun j => r.num j * 1200000)) (hs : SS (1200000 * r.d) (fun j => r.num j * 1200000)) {m er : Int} {b : Bool}
    (h : CentsRes (.returned (.tuple #[.int .i64 m, .bool b, .int .i64 er])) r) : er = 0 := by
  obtain ⟨r1, _, _⟩ := checkS_ok h0
  have h1 := h.2 h0
  unfold FloorRes at h1
  split at h1
  · rename_i hc
    exfalso
    rcases hc with hc | hc
    · have := ((sgM_TT r 1200000 r.d 1000000000001).1 hc).lt hs
      omega
    · have := ht.lt ((sgM_SS r 1200000 r.d (-1000000000000)).1 hc)
      omega
  · obtain ⟨m', _, _, _, _, h1⟩ := h1
    injection h1 with h1
    injection h1 with h1
    simp at h1
    exact h1.2.2
theorem madeS_ok {R q : RV} (hd : 1 ≤ R.d) (h : madeS R = (q, 0)) : checkS q = 0 := by
  by_cases hc : checkS (mkR R) = 0
  · rw [madeS_is h]; exact hc
  · rw [(madeS_check R hd).2 hc] at h
    injection h with _ h2
    exact absurd h2 (by decide)
theorem madeS_seven {R q : RV} {e : Int} (h : madeS R = (q, e)) (he : e ≠ 0) : e = 7 ∧ q = RVzero := by
  unfold madeS at h
  split at h
  · injection h with _ h2; exact absurd h2.symm he
  · injection h with h1 h2; exact ⟨h2.symm, h1.symm⟩
end Go.Proofs.YtmcoadmnkelkkaaDoor
namespace Go.Proofs.YtmcoadmnkelkkaaDoor
set_option linter.unusedSimpArgs false
open Go.RowKit
set_option linter.unusedVariables false

theorem CentsRes_bd {r : RV} {e : Ending} (h : CentsRes e r) : ∃ k b er, e = .returned (.tuple #[.int .i64 k, .bool b, .int .i64 er]) ∧ -1000000000000 ≤ k ∧ k ≤ 1000000000000 := by
  by_cases h0 : checkS r = 0
  · exact FloorRes_shape (h.2 h0)
  · exact ⟨0, false, checkS r, h.1 h0, by decide, by decide⟩
/-- Floor answers for the octaves of a checked ratio -/
theorem floor_is (r : RV) (w : World) (hT : PrT w) (h : checkS r = 0) : ∃ e, FloorRes (termsN r 6) 1 r.d (sgR r 1) e := by
  obtain ⟨e, w1, _, ⟨k, hb⟩, _⟩ := Terms_any r w hT []
  obtain ⟨A, n, c, _, hTR⟩ := k.2 h
  obtain ⟨hd, hin, _⟩ := checkS_ok h
  obtain ⟨e2, _, _, ⟨h2, _⟩, _⟩ := Floor_any A n c (termsN r 6) r.d 1 (sgR r 1) w1 hTR (okT_terms hin) hd.1 hd.2 (by decide) (by decide) (fun m h1 h2 => sign_any _ (ok6_atM hin ⟨by decide, by decide⟩ hd ⟨h1, h2⟩)) []
  exact ⟨e2, h2⟩
theorem fold_kk (r : RV) (w : World) (hT : PrT w) : ∃ k : Int, -1000000000000 ≤ k ∧ k ≤ 1000000000000 ∧ (checkS r = 0 → ∀ e, FloorRes (termsN r 6) 1 r.d (sgR r 1) e → ∃ b er, e = .returned (.tuple #[.int .i64 k, .bool b, .int .i64 er])) ∧
    (checkS r = 0 → TT (k * r.d) (fun j => r.num j * 1) ∧ SS ((k + 1) * r.d) (fun j => r.num j * 1)) := by
  by_cases h0 : checkS r = 0
  · obtain ⟨e, he⟩ := floor_is r w hT h0
    obtain ⟨k, b, er, rfl, h1, h2⟩ := FloorRes_shape he
    refine ⟨k, h1, h2, fun _ e' he' => ⟨b, er, FloorRes_det (checkS_ok h0).1.1 he' he⟩, fun _ => ?_⟩
    obtain ⟨k', b', hk, h3, h4⟩ := floor_one h0 he
    injection hk with hk
    injection hk with hk
    simp at hk
    obtain ⟨rfl, _⟩ := hk
    exact ⟨h3, h4⟩
  · exact ⟨0, by decide, by decide, fun h => absurd h h0, fun h => absurd h h0⟩
theorem firstE_ok {a b : RV} (ha : checkS a = 0) (hb : checkS b = 0) : firstE (checkS a) (checkS b) = 0 := by unfold firstE; rw [if_pos ha, hb]
def cents3 (m : Int) (b : Bool) (er : Int) : Ending := .returned (.tuple #[.int .i64 m, .bool b, .int .i64 er])
theorem law_mul {a b ab : RV} {g : Int} (h : joinS a b 1 = (ab, g)) {m n k : Int} {is was so : Bool} (ha : CentsRes (cents3 m is 0) a) (hb : CentsRes (cents3 n was 0) b) (hg : g = 0) (hk : CentsRes (cents3 k so 0) ab) :
    (k = m + n ∨ k = m + n + 1) ∧ (is = true → was = true → so = true ∧ k = m + n) := by
  have ca := Ce.of ha rfl
  have cb := Ce.of hb rfl
  unfold joinS at h
  rw [if_pos (firstE_ok ca.ok cb.ok), hg] at h
  exact cents_mul ca cb h (Ce.of hk rfl)
theorem law_cmp {a b : RV} {z ce : Int} (h : ordC a b = (z, ce)) {m n : Int} {is was : Bool} (ha : CentsRes (cents3 m is 0) a) (hb : CentsRes (cents3 n was 0) b) :
    ce = 0 ∧ ((z = -1 ∧ m ≤ n) ∨ (z = 1 ∧ n ≤ m) ∨ (z = 0 ∧ m = n ∧ is = was)) := by
  have ca := Ce.of ha rfl
  have cb := Ce.of hb rfl
  rw [ordC_ok (firstE_ok ca.ok cb.ok)] at h
  injection h with h1 h2
  obtain ⟨l1, l2, l3⟩ := cents_cmp ca cb
  refine ⟨h2.symm, ?_⟩
  rw [← h1]
  have hs : sgn (cmpT a b 6) = -1 ∨ sgn (cmpT a b 6) = 1 ∨ sgn (cmpT a b 6) = 0 := by
    unfold sgn
    split
    · exact .inr (.inl rfl)
    · split
      · exact .inl rfl
      · exact .inr (.inr rfl)
  rcases hs with hs | hs | hs
  · exact .inl ⟨hs, l1 (by omega)⟩
  · exact .inr (.inl ⟨hs, l2 (by omega)⟩)
  · exact .inr (.inr ⟨hs, l3 hs⟩)
theorem law_fold {a r : RV} {k fk fe : Int} (h : foldS a k = (r, fk, fe)) (hk : checkS a = 0 → TT (k * a.d) (fun j => a.num j * 1) ∧ SS ((k + 1) * a.d) (fun j => a.num j * 1)) {m : Int} {is : Bool} (ha : CentsRes (cents3 m is 0) a) :
    (fe ≠ 0 → fe = 7) ∧ (fe = 0 → fk = k ∧ ∀ x so i, CentsRes (cents3 x so i) r → i = 0 ∧ so = is ∧ x = m - 1200000 * fk ∧ 0 ≤ m - 1200000 * fk ∧ m - 1200000 * fk < 1200000) := by
  have ca := Ce.of ha rfl
  obtain ⟨hlo, hhi⟩ := hk ca.ok
  obtain ⟨⟨q, e⟩, hq⟩ : ∃ s, madeS (foldR a k) = s := ⟨_, rfl⟩
  by_cases he : e = 0
  · subst he
    rw [foldS_ok ca.ok (by rw [hq]), hq] at h
    injection h with h1 h
    injection h with h2 h3
    subst h1
    refine ⟨fun h => absurd h3.symm h, fun _ => ⟨h2.symm, fun x so i hx => ?_⟩⟩
    rw [← h2]
    obtain ⟨⟨t, s⟩, hd, hf⟩ := cents_fold (x := x) (so := so) ca hlo hhi hq
    have hc := madeS_ok (R := foldR a k) (checkS_ok ca.ok).1.1 hq
    have hi := cents_near hc t s hx
    subst hi
    obtain ⟨rfl, rfl, h4, h5⟩ := hf (Ce.of hx rfl)
    exact ⟨rfl, rfl, rfl, h4, h5⟩
  · rw [foldS_out ca.ok (by rw [hq]; exact he), hq] at h
    injection h with h1 h
    injection h with h2 h3
    have := (madeS_seven hq he).1
    exact ⟨fun _ => by rw [← h3]; exact this, fun h4 => absurd (h3.trans h4) he⟩
end Go.Proofs.YtmcoadmnkelkkaaDoor
