/- Turn of package temper and of its reference. (Printed by gentma.py.) The reference's standard temperaments. (Printed by gentmb.py.) Equality of temperaments; the law TemperTurns walks to true. (Printed by gentmc.py.) Plain law: a temperament turned. No program in sight. The law TemperTurned walks to true. (Printed by gentme.py.) Plain law: intervals one after the other. No program in sight. Plain law: the ratio of two whole numbers is that of their quotients by a common divisor. No program in sight. The reference of chapter 04: Of. Chapter 04: the reference's Of of any numbers; the law's Same. The reference of chapter 05: ratio, mul, div, fold; the law's of. (Printed by gentra.py.) Regions that draw in which a variable is made beside calls: whichever comes first, what follows is the same. Regions: guarded loads. The law TemperAdds walks to true. (Printed by gentng.py.) -/
import Derived.Test.YtmcoadmnkelkkaaDoorTemY
import Derived.ChangeKeysEq
import Derived.Test.YtmcoadmnkelkkaaDoorRatU
import Derived.Test.YtmcoadmnkelkkaaDoorRatJ
import Derived.Test.YtmcoadmnkelkkaaDoorRatO
import Derived.Test.YtmcoadmnkelkkaaDoorTemR
namespace Go.Proofs.YtmcoadmnkelkkaaDoor
set_option linter.unusedSimpArgs false
open Go.RowKit
set_option linter.unusedVariables false
attribute [-simp] Tryd.isAgg26 Tryd.isAgg24 Tryd.isAgg23
/-- a temperament turned -/
def TV.turn (t : TV) (b : Nat) : TV := ⟨t.nm, t.syn, (t.wolf + 7 * (b : Int)) % 12, fun i => t.num ((i + 5 * b) % 12), fun i => t.den ((i + 5 * b) % 12)⟩
end Go.Proofs.YtmcoadmnkelkkaaDoor
namespace Go.Proofs.YtmcoadmnkelkkaaDoor
set_option linter.unusedSimpArgs false
open Go.RowKit
set_option linter.unusedVariables false
attribute [-simp] Tryd.isAgg26 Tryd.isAgg24 Tryd.isAgg23
end Go.Proofs.YtmcoadmnkelkkaaDoor
namespace Go.Proofs.YtmcoadmnkelkkaaDoor
set_option linter.unusedSimpArgs false
open Go.RowKit
set_option linter.unusedVariables false
section
variable {P : Program} {ops : Array Oper} {rest : List Oper} {op : Oper} {a : Act} {w : World} {Q : Exit → Act → World → Prop}
end
attribute [-simp] Tryd.isAgg26 Tryd.isAgg24
end Go.Proofs.YtmcoadmnkelkkaaDoor
namespace Go.Proofs.YtmcoadmnkelkkaaDoor
set_option linter.unusedSimpArgs false
set_option linter.unusedVariables false
/-- sums of the first of a row -/
def psum (f : Nat → Int) : Nat → Int
  | 0 => 0
  | n+1 => psum f n + f n
end Go.Proofs.YtmcoadmnkelkkaaDoor
namespace Go.Proofs.YtmcoadmnkelkkaaDoor
set_option linter.unusedSimpArgs false
open Go.RowKit
set_option linter.unusedVariables false
attribute [-simp] Tryd.isAgg26 Tryd.isAgg24 Tryd.isAgg34
def c3 (a b c : Nat) : Array Value := #[.int .u8 (a : Int), .int .u8 (b : Int), .int .u8 (c : Int)]
theorem box_three (a b c : Nat) (w : World) : (Instr.box 31 (.agg (c3 a b c))).run Tryd.prog w = .ok (.pointer (some ⟨w.heap.size, 0, none⟩)) (w.alloc (.cells (c3 a b c) 31)) := by kernel_rfl
theorem RV.ext06 (r : RV) : r.cells.extract 0 6 = r.nums := by kernel_rfl
theorem eq_nums (W : World) (r : RV) : (Op.equalIn 9999 32 (.agg r.nums) (.agg r.nums)).run Tryd.prog W = .ok true W := equal6 W r.n0 r.n1 r.n2 r.n3 r.n4 r.n5
theorem TV.btw_ok {t : TV} (h : t.chk nameS = 0) {x y : Nat} (hx : x < 12) (hy : y < 12) : t.btw (x : Int) (y : Int) = (t.B x y, 0) := by
  unfold TV.btw
  rw [if_pos h, clsB_true.2 (by omega), clsB_true.2 (by omega), if_pos (by rfl)]
  rfl
end Go.Proofs.YtmcoadmnkelkkaaDoor
namespace Go.Proofs.YtmcoadmnkelkkaaDoor
set_option linter.unusedSimpArgs false
set_option linter.unusedVariables false
theorem TP.Ok.sum_b {t : TP} (h : t.Ok) {a b c : Nat} (ha : a < 12) (hb : b < 12) (hc : c < 12) :
    (∀ j, j < 6 → t.b a b j + t.b b c j = t.b a c j) ∨ (∀ j, j < 6 → t.b a b j + t.b b c j = t.b a c j + oct t.D j) := by
  obtain ⟨p1, p2⟩ := h.b_range (a := a) (b := b) (by omega) (by omega)
  obtain ⟨q1, q2⟩ := h.b_range (a := b) (b := c) (by omega) (by omega)
  obtain ⟨r1, r2⟩ := h.b_range (a := a) (b := c) (by omega) (by omega)
  obtain ⟨m, hm⟩ : ∃ m : Int, m = flo (t.y a c) t.D - flo (t.y a b) t.D - flo (t.y b c) t.D := ⟨_, rfl⟩
  have e : ∀ j, t.b a b j + t.b b c j = t.b a c j + oct (m * t.D) j := fun j => by
    have hbb : ∀ a b, t.b a b j = t.n b j - t.n a j - oct (flo (t.y a b) t.D * t.D) j := fun a b => rfl
    rw [hbb, hbb, hbb]
    have hm' := hm
    generalize flo (t.y a c) t.D = x1 at *
    generalize flo (t.y a b) t.D = x2 at *
    generalize flo (t.y b c) t.D = x3 at *
    rw [hm']
    unfold oct
    split
    · simp only [Int.sub_mul]
      omega
    · omega
  have hD := h.hD.1
  have hE := oct_is (m * t.D)
  have l1 : 0 < (m + 1) * t.D := ((p1.add q1).cast (y := 0 + 0) rfl fun j _ => e j).lt ((r2.addQ hE).cast (y := (m + 1) * t.D) (by rw [Int.add_mul]; omega) fun j _ => rfl)
  have l2 : m * t.D < 2 * t.D := ((r1.add hE.tt).cast (y := m * t.D) (by omega) fun j _ => rfl).lt ((p2.add q2).cast (y := 2 * t.D) (by omega) fun j _ => e j)
  have m1 : 0 < m + 1 := lt_of_mul_lt hD (by rw [Int.zero_mul]; exact l1)
  have m2 : m < 2 := lt_of_mul_lt hD l2
  have hm01 : m = 0 ∨ m = 1 := by omega
  rcases hm01 with h0 | h1
  · left
    intro j _
    rw [e j, h0]
    unfold oct
    split <;> omega
  · right
    intro j _
    rw [e j, h1, Int.one_mul]
theorem TP.Ok.b_self {t : TP} (h : t.Ok) {a : Nat} : ∀ j, t.b a a j = 0 := by
  have hy : t.y a a = fun _ => 0 := by funext j; unfold TP.y; omega
  have hf : flo (fun _ => 0) t.D = 0 := flo_eq h.hD.1 (TT_nat 0 0 (fun _ => 0) (fun _ => 0) (by omega) (by simp) (by decide +kernel)) (by
    have : SS 1 (fun _ => 0) := SS_nat 1 0 (fun _ => 0) (fun _ => 0) (by omega) (by simp) (by decide +kernel)
    exact this.mono (by have := h.hD.1; omega))
  intro j
  unfold TP.b
  rw [hy]
  unfold fol
  rw [hf]
  show (0 : Int) - (if j = 0 then 0 * t.D else 0) = 0
  split <;> omega
/-- the fifths from one note up to another one, the wolf not among them: exponents of 3 and 5 -/
theorem TP.G_step (t : TP) (j m : Nat) : ∀ d, m + d ≤ 12 → (t.w < m ∨ m + d ≤ t.w) → t.G (m + d) j - t.G m j = (d : Int) * (t.D * b32 j) - (psum t.e (m + d) - psum t.e m) * cmv t.syn j
  | 0, _, _ => by rw [Nat.add_zero]; simp
  | d+1, hd, hw => by
    have ih := TP.G_step t j m d (by omega) (by omega)
    rw [← Nat.add_assoc, TP.G, psum]
    have hg : t.g (m + d) j = t.D * b32 j - t.e (m + d) * cmv t.syn j := by unfold TP.g; rw [if_neg (by omega)]
    rw [hg, show ((d + 1 : Nat) : Int) = (d : Int) + 1 by omega, Int.add_mul, Int.one_mul]
    have e : (psum t.e (m + d) + t.e (m + d) - psum t.e m) * cmv t.syn j = (psum t.e (m + d) - psum t.e m) * cmv t.syn j + t.e (m + d) * cmv t.syn j := by
      rw [← Int.add_mul]; congr 1; omega
    rw [e]
    omega
/-- no multiple of fifths below twelve, less parts of the comma, is octaves -/
theorem no_octaves {syn : Bool} {D s x : Int} {d : Nat} (hD : 1 ≤ D) (h0 : 0 < d) (h12 : d < 12) (h1 : (d : Int) * (D * b32 1) - s * cmv syn 1 = 0) (h2 : (d : Int) * (D * b32 2) - s * cmv syn 2 = 0) (h3 : (d : Int) * (D * b32 0) - s * cmv syn 0 = x * D) : False := by
  cases syn
  · rw [show b32 1 = 1 from rfl, show cmv false 1 = 12 from rfl] at h1
    rw [show b32 0 = -1 from rfl, show cmv false 0 = -19 from rfl] at h3
    have e1 : (d : Int) * D = s * 12 := by rw [Int.mul_one] at h1; omega
    have e3 : (d : Int) * (D * -1) = -((d : Int) * D) := by rw [Int.mul_neg, Int.mul_one, Int.mul_neg]
    rw [e3] at h3
    have e4 : 7 * ((d : Int) * D) = 12 * (x * D) := by omega
    have e5 : (7 * (d : Int)) * D = (12 * x) * D := by rw [Int.mul_assoc, Int.mul_assoc]; exact e4
    have := Int.eq_of_mul_eq_mul_right (by omega) e5
    omega
  · rw [show b32 1 = 1 from rfl, show cmv true 1 = 4 from rfl] at h1
    rw [show b32 2 = 0 from rfl, show cmv true 2 = -1 from rfl] at h2
    have s0 : s = 0 := by rw [Int.mul_zero, Int.mul_zero] at h2; omega
    subst s0
    rw [Int.mul_one] at h1
    have : (d : Int) * D = 0 := by omega
    rcases Int.mul_eq_zero.1 this with h | h <;> omega
theorem TP.Ok.S_ne {t : TP} (h : t.Ok) {m n : Nat} (hmn : m < n) (hn : n < 12) (h1 : t.S n 1 - t.S m 1 = 0) (h2 : t.S n 2 - t.S m 2 = 0) {x : Int} (h0 : t.S n 0 - t.S m 0 = x * t.D) : False := by
  have hD := h.hD.1
  have o1 : oct (7 * t.D) 1 = 0 := rfl
  have o2 : oct (7 * t.D) 2 = 0 := rfl
  have o0 : oct (7 * t.D) 0 = 7 * t.D := rfl
  by_cases hw : m ≤ t.w ∧ t.w < n
  · have hS : ∀ j, t.S n j - t.S m j = oct (7 * t.D) j - ((t.G 12 j - t.G n j) + t.G m j) := fun j => by
      unfold TP.S
      rw [if_neg (by omega), if_pos hw.1]
      omega
    have a1 := fun j => t.G_step j n (12 - n) (by omega) (by omega)
    have a2 := fun j => t.G_step j 0 m (by omega) (by omega)
    rw [show n + (12 - n) = 12 by omega] at a1
    rw [Nat.zero_add] at a2
    have g0 : ∀ j, t.G 0 j = 0 := fun _ => rfl
    have key : ∀ j, (t.G 12 j - t.G n j) + t.G m j = ((12 - n + m : Nat) : Int) * (t.D * b32 j) - ((psum t.e 12 - psum t.e n) + (psum t.e m - psum t.e 0)) * cmv t.syn j := fun j => by
      have e1 := a1 j
      have e2 := a2 j
      rw [g0] at e2
      rw [show ((12 - n + m : Nat) : Int) = ((12 - n : Nat) : Int) + (m : Int) by omega, Int.add_mul, Int.add_mul]
      omega
    refine no_octaves (syn := t.syn) (D := t.D) (s := (psum t.e 12 - psum t.e n) + (psum t.e m - psum t.e 0)) (x := 7 - x) (d := 12 - n + m) hD (by omega) (by omega) ?_ ?_ ?_
    · rw [← key 1]; have := hS 1; omega
    · rw [← key 2]; have := hS 2; omega
    · rw [← key 0, Int.sub_mul]; have := hS 0; omega
  · have hS : ∀ j, t.S n j - t.S m j = t.G n j - t.G m j := fun j => by
      unfold TP.S
      by_cases h3 : n ≤ t.w
      · rw [if_pos h3, if_pos (by omega)]
      · rw [if_neg h3, if_neg (by omega)]
        omega
    have a1 := fun j => t.G_step j m (n - m) (by omega) (by omega)
    rw [show m + (n - m) = n by omega] at a1
    refine no_octaves (syn := t.syn) (D := t.D) (s := psum t.e n - psum t.e m) (x := x) (d := n - m) hD (by omega) (by omega) ?_ ?_ ?_
    · rw [← a1 1, ← hS 1]; exact h1
    · rw [← a1 2, ← hS 2]; exact h2
    · rw [← a1 0, ← hS 0]; exact h0
theorem prime_cop5 {i k : Nat} (hi : i < 6) (hk : k < 6) (hne : i ≠ k) : Nat.Coprime (prime i) (prime k) := by
  have : ∀ i, i < 6 → ∀ k, k < 6 → i ≠ k → Nat.Coprime (prime i) (prime k) := by decide
  exact this i hi k hk hne
theorem pn_cop (u : Nat → Nat) {i : Nat} (hi : i < 6) (h0 : u i = 0) : ∀ n, n ≤ 6 → Nat.Coprime (prime i) (pn u n)
  | 0, _ => by rw [pn]; exact Nat.coprime_one_right _
  | n+1, hn => by
    rw [pn]
    refine Nat.Coprime.mul_right (pn_cop u hi h0 n (by omega)) ?_
    by_cases hin : i = n
    · subst hin; rw [h0, Nat.pow_zero]; exact Nat.coprime_one_right _
    · exact Nat.Coprime.pow_right _ (prime_cop5 hi (by omega) hin)
theorem pn_dvd (u : Nat → Nat) {i : Nat} (h0 : 0 < u i) : ∀ n, i < n → prime i ∣ pn u n
  | 0, h => absurd h (Nat.not_lt_zero _)
  | n+1, h => by
    rw [pn]
    rcases Nat.lt_or_ge i n with g | g
    · exact Nat.dvd_trans (pn_dvd u h0 n g) (Nat.dvd_mul_right _ _)
    · obtain rfl : i = n := by omega
      have e : prime i ^ u i = prime i * prime i ^ (u i - 1) := by rw [← Nat.pow_succ', Nat.succ_eq_add_one, show u i - 1 + 1 = u i by omega]
      exact Nat.dvd_trans ⟨_, e⟩ (Nat.dvd_mul_left _ _)
/-- a product of powers of the primes is 1 for exponents 0 alone -/
theorem QQ_zero {f : Nat → Int} (h : QQ 0 f) : ∀ j, j < 6 → f j = 0 := by
  have hf : ∀ j, j < 6 → f j = ((f j).toNat : Int) - ((-f j).toNat : Int) := fun j _ => by omega
  have e := pv_frac (f := f) (u := fun j => (f j).toNat) (d := fun j => (-f j).toNat) hf
  unfold QQ at h
  rw [h, Rat.zpow_zero, Rat.one_mul] at e
  have e2 : pn (fun j => (-f j).toNat) 6 = pn (fun j => (f j).toNat) 6 := by exact_mod_cast e
  intro j hj
  rcases Int.lt_trichotomy (f j) 0 with g | g | g
  · exfalso
    have d1 := pn_dvd (fun j => (-f j).toNat) (i := j) (by show 0 < (-f j).toNat; omega) 6 hj
    have d2 := pn_cop (fun j => (f j).toNat) hj (by show (f j).toNat = 0; omega) 6 (Nat.le_refl _)
    rw [e2] at d1
    have := Nat.Coprime.eq_one_of_dvd d2 d1
    have := prime_two hj
    omega
  · exact g
  · exfalso
    have d1 := pn_dvd (fun j => (f j).toNat) (i := j) (by show 0 < (f j).toNat; omega) 6 hj
    have d2 := pn_cop (fun j => (-f j).toNat) hj (by show (-f j).toNat = 0; omega) 6 (Nat.le_refl _)
    rw [← e2] at d1
    have := Nat.Coprime.eq_one_of_dvd d2 d1
    have := prime_two hj
    omega
theorem TP.Ok.octave {t : TP} (h : t.Ok) {a b : Nat} (ha : a < 12) (hb : b < 12) (hne : a ≠ b) : ∀ j, j < 6 → t.b a b j + t.b b a j = oct t.D j := by
  rcases h.sum_b ha hb ha with g | g
  · exfalso
    obtain ⟨p1, _⟩ := h.b_range (a := a) (b := b) (by omega) (by omega)
    obtain ⟨q1, _⟩ := h.b_range (a := b) (b := a) (by omega) (by omega)
    have hq : QQ 0 (t.b a b) := by
      have hn : ∀ j, j < 6 → t.b b a j = -t.b a b j := fun j hj => by have := g j hj; rw [h.b_self] at this; omega
      have q2 := q1.congr hn
      unfold QQ
      refine Rat.le_antisymm ?_ p1
      refine Rat.not_lt.1 fun hl => ?_
      unfold TT at q2
      rw [Rat.zpow_zero] at hl q2
      have hlt := rmul_lt hl q2 (by decide) (pv_pos (t.b a b) 6 (Nat.le_refl _))
      rw [← pv_add (t.b a b) _ 6 (Nat.le_refl _), pv_congr (g := fun _ => 0) 6 (fun j _ => by show t.b a b j + -t.b a b j = 0; omega), pv_zero] at hlt
      rw [Rat.one_mul] at hlt
      exact Rat.lt_irrefl hlt
    have hz := QQ_zero hq
    have hy : ∀ j, j ≠ 0 → j < 6 → t.S b j - t.S a j = 0 := fun j hj hj6 => by
      have := hz j hj6
      unfold TP.b at this
      rw [fol_same _ _ hj] at this
      unfold TP.y TP.n at this
      rw [fol_same _ _ hj, fol_same _ _ hj] at this
      exact this
    have h0 : t.S b 0 - t.S a 0 = (flo (t.y a b) t.D + flo (t.S b) t.D - flo (t.S a) t.D) * t.D := by
      have e := hz 0 (by decide)
      have e2 : t.b a b 0 = (t.S b 0 - flo (t.S b) t.D * t.D) - (t.S a 0 - flo (t.S a) t.D * t.D) - flo (t.y a b) t.D * t.D := rfl
      rw [e2] at e
      simp only [Int.add_mul, Int.sub_mul]
      omega
    rcases Nat.lt_or_ge a b with hl | hl
    · exact h.S_ne hl hb (hy 1 (by decide) (by decide)) (hy 2 (by decide) (by decide)) h0
    · refine h.S_ne (m := b) (n := a) (by omega) ha (by have := hy 1 (by decide) (by decide); omega) (by have := hy 2 (by decide) (by decide); omega) (x := -(flo (t.y a b) t.D + flo (t.S b) t.D - flo (t.S a) t.D)) ?_
      rw [Int.neg_mul, ← h0]
      omega
  · intro j hj
    rw [g j hj, h.b_self]
    omega
end Go.Proofs.YtmcoadmnkelkkaaDoor
namespace Go.Proofs.YtmcoadmnkelkkaaDoor
set_option linter.unusedSimpArgs false
set_option linter.unusedVariables false
theorem prime_div : ∀ d, d ≤ 13 → ∀ i, i < 6 → d ∣ prime i → d = 1 ∨ d = prime i := by decide
theorem prime_cop {i a : Nat} (hi : i < 6) (h : ¬ prime i ∣ a) : Nat.gcd (prime i) a = 1 := by
  have hp := prime_two hi
  have h1 := Nat.gcd_dvd_left (prime i) a
  have h2 := Nat.le_of_dvd (by omega) h1
  rcases prime_div _ (by omega) i hi h1 with h3 | h3
  · exact h3
  · exact absurd (h3 ▸ Nat.gcd_dvd_right (prime i) a) h
theorem vb_split {i n : Nat} (hi : i < 6) (hn : 0 < n) : ∃ m, n = prime i ^ vb (prime i) n * m ∧ 0 < m ∧ Nat.gcd (prime i) m = 1 ∧ n / prime i ^ vb (prime i) n = m := by
  have hp := prime_two hi
  obtain ⟨h1, h2⟩ := vb_dvd hp.1 n hn
  have hpp : 0 < prime i ^ vb (prime i) n := Nat.pow_pos (by omega)
  have hm : 0 < n / prime i ^ vb (prime i) n := Nat.div_pos (Nat.le_of_dvd hn h1) hpp
  refine ⟨_, (Nat.mul_div_cancel' h1).symm, hm, prime_cop hi fun hd => ?_, rfl⟩
  rw [vb_div hp.1 hm, if_pos (Nat.mod_eq_zero_of_dvd hd)] at h2
  omega
theorem vb_times {i a b : Nat} (hi : i < 6) (ha : 0 < a) (hb : 0 < b) : vb (prime i) (a * b) = vb (prime i) a + vb (prime i) b ∧ a * b / prime i ^ vb (prime i) (a * b) = (a / prime i ^ vb (prime i) a) * (b / prime i ^ vb (prime i) b) := by
  have hp := prime_two hi
  obtain ⟨m, e1, m0, m1, m2⟩ := vb_split hi ha
  obtain ⟨n, f1, n0, n1, n2⟩ := vb_split hi hb
  have e : a * b = prime i ^ (vb (prime i) a + vb (prime i) b) * (m * n) := by
    rw [Nat.pow_add]
    calc a * b = (prime i ^ vb (prime i) a * m) * (prime i ^ vb (prime i) b * n) := by rw [← e1, ← f1]
      _ = _ := by ac_rfl
  have hv : vb (prime i) (a * b) = vb (prime i) a + vb (prime i) b := by
    rw [e]
    exact vb_pow hp.1 (Nat.mul_pos m0 n0) (Nat.Coprime.mul_right m1 n1) _
  refine ⟨hv, ?_⟩
  rw [m2, n2, hv]
  rw [e]
  exact Nat.mul_div_cancel_left _ (Nat.pow_pos (by omega))
theorem stripN_times {a b : Nat} (ha : 0 < a) (hb : 0 < b) : ∀ {i : Nat}, i ≤ 6 → stripN (a * b) i = stripN a i * stripN b i
  | 0, _ => rfl
  | i+1, hi => by
    have ih := stripN_times ha hb (i := i) (by omega)
    rw [stripN, stripN, stripN, ih]
    exact (vb_times (by omega) (stripN_pos ha (by omega)).1 (stripN_pos hb (by omega)).1).2
theorem ex_times {a b i : Nat} (ha : 0 < a) (hb : 0 < b) (hi : i < 6) : ex (a * b) i = ex a i + ex b i := by
  unfold ex
  rw [stripN_times ha hb (by omega)]
  exact (vb_times hi (stripN_pos ha (by omega)).1 (stripN_pos hb (by omega)).1).1
theorem stripN_dvd {x : Nat} (hx : 0 < x) : ∀ {i : Nat}, i ≤ 6 → stripN x i ∣ x
  | 0, _ => Nat.dvd_refl _
  | i+1, hi => by
    have ih := stripN_dvd hx (i := i) (by omega)
    rw [stripN]
    exact Nat.dvd_trans (Nat.div_dvd_of_dvd (vb_dvd (prime_two (by omega)).1 _ (stripN_pos hx (by omega)).1).1) ih
/-- what the program and the document give is the same -/
theorem of_same {x y : Nat} (hx : 0 < x) (hy : 0 < y) :
    (if stripN (x / Nat.gcd x y) 6 = 1 ∧ stripN (y / Nat.gcd x y) 6 = 1 then (RV.of (ofF (x / Nat.gcd x y) (y / Nat.gcd x y) 6) 1, (0 : Int)) else (RVzero, 7)) =
    (if stripN x 6 = stripN y 6 then (RV.of (ofF x y 6) 1, (0 : Int)) else (RVzero, 7)) := by
  have hg : 0 < Nat.gcd x y := Nat.gcd_pos_of_pos_left _ hx
  obtain ⟨a, ha⟩ := Nat.gcd_dvd_left x y
  obtain ⟨b, hb⟩ := Nat.gcd_dvd_right x y
  have hcop : Nat.gcd (x / Nat.gcd x y) (y / Nat.gcd x y) = 1 := Nat.coprime_div_gcd_div_gcd hg
  have hxa : x / Nat.gcd x y = a := by
    have := congrArg (· / Nat.gcd x y) ha
    simpa [Nat.mul_div_cancel_left _ hg] using this
  have hyb : y / Nat.gcd x y = b := by
    have := congrArg (· / Nat.gcd x y) hb
    simpa [Nat.mul_div_cancel_left _ hg] using this
  rw [hxa, hyb] at hcop ⊢
  generalize Nat.gcd x y = g at *
  have ha0 : 0 < a := Nat.pos_of_ne_zero fun h => by subst h; simp at ha; omega
  have hb0 : 0 < b := Nat.pos_of_ne_zero fun h => by subst h; simp at hb; omega
  have hsx : stripN x 6 = stripN g 6 * stripN a 6 := by rw [ha, stripN_times hg ha0 (by omega)]
  have hsy : stripN y 6 = stripN g 6 * stripN b 6 := by rw [hb, stripN_times hg hb0 (by omega)]
  have hiff : (stripN a 6 = 1 ∧ stripN b 6 = 1) ↔ stripN x 6 = stripN y 6 := by
    rw [hsx, hsy]
    constructor
    · rintro ⟨h1, h2⟩; rw [h1, h2]
    · intro h
      have h3 := Nat.eq_of_mul_eq_mul_left (stripN_pos hg (by omega)).1 h
      have h4 : stripN a 6 ∣ Nat.gcd a b := Nat.dvd_gcd (stripN_dvd ha0 (by omega)) (by rw [h3]; exact stripN_dvd hb0 (by omega))
      rw [hcop] at h4
      have h5 := Nat.eq_one_of_dvd_one h4
      exact ⟨h5, by rw [← h3]; exact h5⟩
  have hF : RV.of (ofF a b 6) 1 = RV.of (ofF x y 6) 1 := RV.of_congr 1 fun j hj => by
    unfold ofF
    rw [if_pos hj, if_pos hj, ha, hb, ex_times hg ha0 hj, ex_times hg hb0 hj]
    omega
  by_cases h : stripN x 6 = stripN y 6
  · rw [if_pos (hiff.2 h), if_pos h, hF]
  · rw [if_neg (fun h2 => h (hiff.1 h2)), if_neg h]
end Go.Proofs.YtmcoadmnkelkkaaDoor
namespace Go.Proofs.YtmcoadmnkelkkaaDoor
set_option linter.unusedSimpArgs false
open Go.RowKit
set_option linter.unusedVariables false
set_option maxHeartbeats 6400000 in
set_option maxRecDepth 100000 in
theorem r4Of_good (x y : Nat) (w : World) (hx0 : 0 < x) (hx1 : x ≤ 1000000000000) (hy0 : 0 < y) (hy1 : y ≤ 1000000000000) (s : RV × Int) (hs : (if stripN (x / Nat.gcd x y) 6 = 1 ∧ stripN (y / Nat.gcd x y) 6 = 1 then (RV.of (ofF (x / Nat.gcd x y) (y / Nat.gcd x y) 6) 1, (0 : Int)) else (RVzero, 7)) = s) :
    Calls Tryd.prog 28 #[.int .i64 x, .int .i64 y] w fun e w' => OfRes e s ∧ Below w.heap.size w w' := by
  have HSS : Sl _ := ⟨hs⟩
  clear hs
  have hG := fun W : World => r4gcd_any x y W (by omega) (by omega)
  have hg0 : 0 < Nat.gcd x y := Nat.gcd_pos_of_pos_left _ hx0
  have hgx : Nat.gcd x y ≤ x := Nat.gcd_le_left _ hx0
  have hgy : Nat.gcd x y ≤ y := Nat.gcd_le_right _ hy0
  generalize Nat.gcd x y = g at *
  have HG : Sl _ := ⟨hG⟩
  obtain ⟨x1, hx2⟩ : ∃ x1, x / g = x1 := ⟨_, rfl⟩
  obtain ⟨y1, hy2⟩ : ∃ y1, y / g = y1 := ⟨_, rfl⟩
  have hxp : 0 < x1 := by rw [← hx2]; exact Nat.div_pos hgx hg0
  have hyp : 0 < y1 := by rw [← hy2]; exact Nat.div_pos hgy hg0
  have hxl : x1 ≤ 1000000000000 := by have := Nat.div_le_self x g; omega
  have hyl : y1 ≤ 1000000000000 := by have := Nat.div_le_self y g; omega
  rw [hx2, hy2] at HSS
  have hdx : (x : Int).tdiv (g : Int) = (x1 : Int) := by rw [Int.tdiv_eq_ediv_of_nonneg (by omega), ← hx2]; rfl
  have hdy : (y : Int).tdiv (g : Int) = (y1 : Int) := by rw [Int.tdiv_eq_ediv_of_nonneg (by omega), ← hy2]; rfl
  have hwx : IntKind.i64.wrap (x1 : Int) = (x1 : Int) := by rw [IntKind.wrap_i64]; omega
  have hwy : IntKind.i64.wrap (y1 : Int) = (y1 : Int) := by rw [IntKind.wrap_i64]; omega
  have hgz : ¬ (g = 0) := by omega
  have HXY : Sl _ := ⟨And.intro hxp (And.intro hxl (And.intro hyp hyl))⟩
  have X4 := Blk.new w 34 RVzero.cells
  have hu := (Below.refl w.heap.size w).alloc (Nat.le_refl _) (.cells RVzero.cells 34)
  rw [RVzero_cells] at X4 hu
  have HU : Sl _ := ⟨And.intro hu X4⟩
  have E0 : Sl ((RV.of (ofF x1 y1 0) 1).cells = #[.int .i64 0, .int .i64 0, .int .i64 0, .int .i64 0, .int .i64 0, .int .i64 0, .int .i64 1]) := ⟨by unfold RV.of RV.cells ofF; simp⟩
  clear hG hgx hgy hx2 hy2 hxp hyp hu X4
  go_enter Tryd.func28, Tryd.ntmps28
  go_wp2_with fail
  refine (HG.out _).mono ?_; rintro e w1 ⟨rfl, dn, rfl⟩
  clear HG
  go_wp2_with fail
  go_quiet (fail)
  have B2 := below_drewN HU.out.1 (dn + nq)
  have X2 : Blk ((w.alloc (.cells #[.int .i64 0, .int .i64 0, .int .i64 0, .int .i64 0, .int .i64 0, .int .i64 0, .int .i64 0] 34)).drewN (dn + nq)) w.heap.size 34 #[.int .i64 0, .int .i64 0, .int .i64 0, .int .i64 0, .int .i64 0, .int .i64 0, .int .i64 0] := HU.out.2.drewN _
  have hsz : ((w.alloc (.cells #[.int .i64 0, .int .i64 0, .int .i64 0, .int .i64 0, .int .i64 0, .int .i64 0, .int .i64 0] 34)).drewN (dn + nq)).heap.size = w.heap.size + 1 := by simp
  rw [drew2]
  generalize (w.alloc (.cells #[.int .i64 0, .int .i64 0, .int .i64 0, .int .i64 0, .int .i64 0, .int .i64 0, .int .i64 0] 34)).drewN (dn + nq) = w2 at *
  have hPr := Primes_any (w2.alloc (.cells #[.int .i64 0, .int .i64 0, .int .i64 0, .int .i64 0, .int .i64 0, .int .i64 0, .int .i64 1] 34))
  have hsz2 : (w2.alloc (.cells #[.int .i64 0, .int .i64 0, .int .i64 0, .int .i64 0, .int .i64 0, .int .i64 0, .int .i64 1] 34)).heap.size = w.heap.size + 2 := by simp [hsz]
  have X7 := Blk.new w2 34 #[.int .i64 0, .int .i64 0, .int .i64 0, .int .i64 0, .int .i64 0, .int .i64 0, .int .i64 1]
  have X8 := Blk.new (w2.alloc (.cells #[.int .i64 0, .int .i64 0, .int .i64 0, .int .i64 0, .int .i64 0, .int .i64 0, .int .i64 1] 34)) 2 primeCells
  rw [hsz] at X7
  rw [hsz2] at hPr X8
  have B3 := (B2.alloc B2.size (.cells #[.int .i64 0, .int .i64 0, .int .i64 0, .int .i64 0, .int .i64 0, .int .i64 0, .int .i64 1] 34)).alloc (by rw [hsz2]; omega) (.cells primeCells 2)
  have HW : Sl _ := ⟨And.intro B3 (And.intro ((X2.alloc (.cells #[.int .i64 0, .int .i64 0, .int .i64 0, .int .i64 0, .int .i64 0, .int .i64 0, .int .i64 1] 34)).alloc (.cells primeCells 2)) (And.intro (X7.alloc (.cells primeCells 2)) X8))⟩
  have HPR : Sl _ := ⟨hPr⟩
  clear B2 X2 X7 X8 B3 hPr hsz2 HU
  go_wp2_with fail
  refine HPR.out.mono ?_; rintro e w3 ⟨rfl, rfl⟩
  generalize (w2.alloc (.cells #[.int .i64 0, .int .i64 0, .int .i64 0, .int .i64 0, .int .i64 0, .int .i64 0, .int .i64 1] 34)).alloc (.cells primeCells 2) = w4 at *
  clear HPR hsz
  go_wp2_with fail
  go_loopw [0, 1, 9] (fun s0 s1 s9 wr => ∃ (i a b : Nat), i ≤ 6 ∧ s0 = .int .i64 a ∧ s1 = .int .i64 b ∧ s9 = .int .i64 i ∧ Sl (Below w.heap.size w wr ∧ Blk wr w.heap.size 34 RVzero.cells ∧ Blk wr (w.heap.size + 1) 34 (RV.of (ofF x1 y1 i) 1).cells ∧ Blk wr (w.heap.size + 2) 2 primeCells ∧ a = stripN x1 i ∧ b = stripN y1 i)) (fun _ _ s9 _ => 6 - (RowKit.intOf s9).toNat)
  case atStart => exact ⟨0, x1, y1, by decide, rfl, rfl, rfl, ⟨HW.out.1, HW.out.2.1, by rw [E0.out]; exact HW.out.2.2.1, HW.out.2.2.2, rfl, rfl⟩⟩
  case round =>
    clear HW E0
    obtain ⟨i, a, b, hi, rfl, rfl, rfl, HR⟩ := hrel
    have ha := stripN_pos HXY.out.1 hi
    have hb := stripN_pos HXY.out.2.2.1 hi
    rw [← HR.out.2.2.2.2.1] at ha
    rw [← HR.out.2.2.2.2.2] at hb
    have ha1 : a ≤ 1000000000000 := Nat.le_trans ha.2 HXY.out.2.1
    have hb1 : b ≤ 1000000000000 := Nat.le_trans hb.2 HXY.out.2.2.2
    have ha0 := ha.1
    have hb0 := hb.1
    clear ha hb
    by_cases hi6 : i < 6
    · obtain ⟨p, hp⟩ : ∃ p, prime i = p := ⟨_, rfl⟩
      have hp2 := prime_two hi6
      rw [hp] at hp2
      have HP : Sl _ := ⟨hp⟩
      clear hp
      go_wp2_with fail
      go_loopw [0] (fun s0 wq => ∃ (c t : Nat), 0 < c ∧ c ≤ 1000000000000 ∧ s0 = .int .i64 c ∧ Sl (Below w.heap.size w wq ∧ Blk wq w.heap.size 34 RVzero.cells ∧ Blk wq (w.heap.size + 1) 34 (RV.of (fun j => if j = i then (t : Int) else ofF x1 y1 i j) 1).cells ∧ Blk wq (w.heap.size + 2) 2 primeCells ∧ c * p ^ t = a ∧ t + vb p c = vb p a)) (fun s0 _ => (RowKit.intOf s0).toNat)
      case atStart => exact ⟨a, 0, ha0, ha1, rfl, ⟨HR.out.1, HR.out.2.1, by rw [← RV.of_congr 1 (fun j hj => (?_ : ofF x1 y1 i j = if j = i then ((0 : Nat) : Int) else ofF x1 y1 i j))]; exact HR.out.2.2.1; by_cases h : j = i; (subst h; rw [if_pos rfl]; unfold ofF; rw [if_neg (Nat.lt_irrefl _)]; rfl); rw [if_neg h], HR.out.2.2.2.1, by rw [Nat.pow_zero, Nat.mul_one], by omega⟩⟩
      case round =>
        obtain ⟨c, t, hc0, hc1, rfl, HI⟩ := hrel
        have hvl : vb p a ≤ 40 := vb_le hp2.1 ha0 ha1
        have htl : t ≤ 40 := by have := HI.out.2.2.2.2.2; omega
        have hvd := vb_div hp2.1 hc0
        have hcell : wr.cell? ⟨w.heap.size + 1, i, none⟩ = some (.int .i64 (t : Int)) := by
          rw [HI.out.2.2.1.cell, RV.of_cell _ _ hi6, if_pos rfl]
        have hfz : wr.frozen? ⟨w.heap.size + 1, i, none⟩ = false := HI.out.2.2.1.frozen i
        have hpc : wr.cell? ⟨w.heap.size + 2, i, none⟩ = some (.int .i64 (p : Nat)) := by rw [HI.out.2.2.2.1.cell, primeCells_at hi6, HP.out]
        have hmod : (c : Int).tmod (p : Int) = ((c % p : Nat) : Int) := by rw [Int.tmod_eq_emod_of_nonneg (by omega)]; omega
        have hpz : ¬ (p = 0) := by omega
        by_cases hm : c % p = 0
        · rw [if_pos hm] at hvd
          rw [hm] at hmod
          have hdiv : (c : Int).tdiv (p : Int) = ((c / p : Nat) : Int) := by rw [Int.tdiv_eq_ediv_of_nonneg (by omega)]; rfl
          have hq0 : 0 < c / p := Nat.div_pos (Nat.le_of_dvd hc0 (Nat.dvd_of_mod_eq_zero hm)) (by omega)
          have hq1 : c / p < c := Nat.div_lt_self hc0 (by omega)
          have hcp : c / p * p = c := Nat.div_mul_cancel (Nat.dvd_of_mod_eq_zero hm)
          have hP5 := HI.out.2.2.1.set_ i (.int .i64 ((t : Int) + 1))
          rw [RV.of_set _ _ _ hi6, RV.of_congr 1 (fun j hj => (?_ : _ = if j = i then ((t + 1 : Nat) : Int) else ofF x1 y1 i j))] at hP5
          rotate_left
          · by_cases h : j = i
            · rw [if_pos h, if_pos h]; omega
            · rw [if_neg h, if_neg h, if_neg h]
          have hne : w.heap.size ≠ w.heap.size + 1 := by omega
          have hne2 : w.heap.size + 2 ≠ w.heap.size + 1 := by omega
          have HN : Sl _ := ⟨And.intro (HI.out.1.setCell (p := ⟨w.heap.size + 1, i, none⟩) (Nat.le_succ _) (.int .i64 ((t : Int) + 1))) (And.intro (HI.out.2.1.far (p := ⟨w.heap.size + 1, i, none⟩) hne (.int .i64 ((t : Int) + 1))) (And.intro hP5 (And.intro (HI.out.2.2.2.1.far (p := ⟨w.heap.size + 1, i, none⟩) hne2 (.int .i64 ((t : Int) + 1))) (And.intro (show c / p * p ^ (t + 1) = a by rw [Nat.pow_succ, Nat.mul_comm (p ^ t), ← Nat.mul_assoc, hcp]; exact HI.out.2.2.2.2.1) (show t + 1 + vb p (c / p) = vb p a by have := HI.out.2.2.2.2.2; omega)))))⟩
          clear hvd hm hcp hP5 hne hne2
          have hpc2 : (wr.setCell ⟨w.heap.size + 1, i, none⟩ (.int .i64 ((t : Int) + 1))).cell? ⟨w.heap.size + 2, i, none⟩ = some (.int .i64 (p : Nat)) := by rw [HN.out.2.2.2.1.cell, primeCells_at hi6, HP.out]
          generalize c / p = q at *
          go_wp2_with fail
          exact ⟨⟨q, t + 1, hq0, by omega, rfl, HN⟩, by simp [RowKit.intOf]; omega⟩
        · rw [if_neg hm] at hvd
          have hbq : ((c % p : Nat) : Int) ≠ 0 := by omega
          have hbz : (((c % p : Nat) : Int) == 0) = false := by rw [beq_eq_false_iff_ne]; exact hbq
          have HV : Sl _ := ⟨hvd⟩
          clear hvd hm
          generalize c % p = q at *
          go_wp2_with fail
          have hta : t = vb p a := by have := HI.out.2.2.2.2.2; rw [HV.out] at this; omega
          have hca : c = a / p ^ vb p a := (Nat.div_eq_of_eq_mul_left (Nat.pow_pos (by omega)) (by rw [← hta]; exact HI.out.2.2.2.2.1.symm)).symm
          obtain ⟨ea, hea⟩ : ∃ ea, vb p a = ea := ⟨_, rfl⟩
          have HQ : Sl _ := ⟨And.intro HI.out.1 (And.intro HI.out.2.1 (And.intro (show Blk wr (w.heap.size + 1) 34 (RV.of (fun j => if j = i then (ea : Int) else ofF x1 y1 i j) 1).cells by rw [← hea, ← hta]; exact HI.out.2.2.1) HI.out.2.2.2.1))⟩
          have HCA : Sl _ := ⟨And.intro hca hea⟩
          have hel : ea ≤ 40 := by omega
          clear hta hca hea hvl htl hcell hfz hpc hmod hpz hbq hbz HV HI
          go_loopw [1] (fun s0 wq => ∃ (c t : Nat), 0 < c ∧ c ≤ 1000000000000 ∧ s0 = .int .i64 c ∧ Sl (Below w.heap.size w wq ∧ Blk wq w.heap.size 34 RVzero.cells ∧ Blk wq (w.heap.size + 1) 34 (RV.of (fun j => if j = i then ((ea : Int) - (t : Int)) else ofF x1 y1 i j) 1).cells ∧ Blk wq (w.heap.size + 2) 2 primeCells ∧ c * p ^ t = b ∧ t + vb p c = vb p b)) (fun s0 _ => (RowKit.intOf s0).toNat)
          case atStart => exact ⟨b, 0, hb0, hb1, rfl, ⟨HQ.out.1, HQ.out.2.1, by rw [show ((ea : Int) - ((0 : Nat) : Int)) = (ea : Int) by omega]; exact HQ.out.2.2.1, HQ.out.2.2.2, by rw [Nat.pow_zero, Nat.mul_one], by omega⟩⟩
          case round =>
            obtain ⟨c, t, hc0, hc1, rfl, HI⟩ := hrel
            have hvl : vb p b ≤ 40 := vb_le hp2.1 hb0 hb1
            have htl : t ≤ 40 := by have := HI.out.2.2.2.2.2; omega
            have hvd := vb_div hp2.1 hc0
            have hcell : wr.cell? ⟨w.heap.size + 1, i, none⟩ = some (.int .i64 ((ea : Int) - (t : Int))) := by
              rw [HI.out.2.2.1.cell, RV.of_cell _ _ hi6, if_pos rfl]
            have hfz : wr.frozen? ⟨w.heap.size + 1, i, none⟩ = false := HI.out.2.2.1.frozen i
            have hpc : wr.cell? ⟨w.heap.size + 2, i, none⟩ = some (.int .i64 (p : Nat)) := by rw [HI.out.2.2.2.1.cell, primeCells_at hi6, HP.out]
            have hmod : (c : Int).tmod (p : Int) = ((c % p : Nat) : Int) := by rw [Int.tmod_eq_emod_of_nonneg (by omega)]; omega
            have hpz : ¬ (p = 0) := by omega
            by_cases hm : c % p = 0
            · rw [if_pos hm] at hvd
              rw [hm] at hmod
              have hdiv : (c : Int).tdiv (p : Int) = ((c / p : Nat) : Int) := by rw [Int.tdiv_eq_ediv_of_nonneg (by omega)]; rfl
              have hq0 : 0 < c / p := Nat.div_pos (Nat.le_of_dvd hc0 (Nat.dvd_of_mod_eq_zero hm)) (by omega)
              have hq1 : c / p < c := Nat.div_lt_self hc0 (by omega)
              have hcp : c / p * p = c := Nat.div_mul_cancel (Nat.dvd_of_mod_eq_zero hm)
              have hP5 := HI.out.2.2.1.set_ i (.int .i64 ((ea : Int) - (t : Int) - 1))
              rw [RV.of_set _ _ _ hi6, RV.of_congr 1 (fun j hj => (?_ : _ = if j = i then ((ea : Int) - ((t + 1 : Nat) : Int)) else ofF x1 y1 i j))] at hP5
              rotate_left
              · by_cases h : j = i
                · rw [if_pos h, if_pos h]; omega
                · rw [if_neg h, if_neg h, if_neg h]
              have hne : w.heap.size ≠ w.heap.size + 1 := by omega
              have hne2 : w.heap.size + 2 ≠ w.heap.size + 1 := by omega
              have HN : Sl _ := ⟨And.intro (HI.out.1.setCell (p := ⟨w.heap.size + 1, i, none⟩) (Nat.le_succ _) (.int .i64 ((ea : Int) - (t : Int) - 1))) (And.intro (HI.out.2.1.far (p := ⟨w.heap.size + 1, i, none⟩) hne (.int .i64 ((ea : Int) - (t : Int) - 1))) (And.intro hP5 (And.intro (HI.out.2.2.2.1.far (p := ⟨w.heap.size + 1, i, none⟩) hne2 (.int .i64 ((ea : Int) - (t : Int) - 1))) (And.intro (show c / p * p ^ (t + 1) = b by rw [Nat.pow_succ, Nat.mul_comm (p ^ t), ← Nat.mul_assoc, hcp]; exact HI.out.2.2.2.2.1) (show t + 1 + vb p (c / p) = vb p b by have := HI.out.2.2.2.2.2; omega)))))⟩
              clear hvd hm hcp hP5 hne hne2
              have hpc2 : (wr.setCell ⟨w.heap.size + 1, i, none⟩ (.int .i64 ((ea : Int) - (t : Int) - 1))).cell? ⟨w.heap.size + 2, i, none⟩ = some (.int .i64 (p : Nat)) := by rw [HN.out.2.2.2.1.cell, primeCells_at hi6, HP.out]
              generalize c / p = q at *
              go_wp2_with fail
              exact ⟨⟨q, t + 1, hq0, by omega, rfl, HN⟩, by simp [RowKit.intOf]; omega⟩
            · rw [if_neg hm] at hvd
              have hbq : ((c % p : Nat) : Int) ≠ 0 := by omega
              have hbz : (((c % p : Nat) : Int) == 0) = false := by rw [beq_eq_false_iff_ne]; exact hbq
              have HV : Sl _ := ⟨hvd⟩
              clear hvd hm
              generalize c % p = q at *
              go_wp2_with fail
              have htb : t = vb p b := by have := HI.out.2.2.2.2.2; rw [HV.out] at this; omega
              have hcb : c = b / p ^ vb p b := (Nat.div_eq_of_eq_mul_left (Nat.pow_pos (by omega)) (by rw [← htb]; exact HI.out.2.2.2.2.1.symm)).symm
              have hF : RV.of (fun j => if j = i then (ea : Int) - (t : Int) else ofF x1 y1 i j) 1 = RV.of (ofF x1 y1 (i + 1)) 1 := by
                refine RV.of_congr 1 fun j hj => ?_
                unfold ofF
                by_cases h : j = i
                · rw [if_pos h, h, if_pos (Nat.lt_succ_self i)]
                  unfold ex
                  rw [HP.out, ← HR.out.2.2.2.2.1, ← HR.out.2.2.2.2.2, HCA.out.2, htb]
                · rw [if_neg h]
                  by_cases h2 : j < i
                  · rw [if_pos h2, if_pos (by omega)]
                  · rw [if_neg h2, if_neg (by omega)]
              refine ⟨⟨i + 1, _, c, hi6, rfl, rfl, by go_num, ⟨HI.out.1, HI.out.2.1, by rw [← hF]; exact HI.out.2.2.1, HI.out.2.2.2.1, ?_, ?_⟩⟩, by simp [RowKit.intOf]; omega⟩
              · rw [stripN, HP.out, ← HR.out.2.2.2.2.1]; exact HCA.out.1
              · rw [stripN, HP.out, ← HR.out.2.2.2.2.2]; exact hcb
    · obtain rfl : i = 6 := by omega
      clear hi6
      have d0 := HR.out.2.1.cell 0
      have d1 := HR.out.2.1.cell 1
      have d2 := HR.out.2.1.cell 2
      have d3 := HR.out.2.1.cell 3
      have d4 := HR.out.2.1.cell 4
      have d5 := HR.out.2.1.cell 5
      have d6 := HR.out.2.1.cell 6
      simp [RVzero_cells] at d0 d1 d2 d3 d4 d5 d6
      have f0 := HR.out.2.1.frozen 0
      have f1 := HR.out.2.1.frozen 1
      have f2 := HR.out.2.1.frozen 2
      have f3 := HR.out.2.1.frozen 3
      have f4 := HR.out.2.1.frozen 4
      have f5 := HR.out.2.1.frozen 5
      have f6 := HR.out.2.1.frozen 6
      have hB := HR.out.1
      have hRz := HR.out.2.1
      rw [RVzero_cells] at hRz
      by_cases hab : a = 1 ∧ b = 1
      · have HZR : Sl (s = (RV.of (ofF x1 y1 6) 1, 0)) := ⟨by rw [← HSS.out]; exact if_pos (by rw [← HR.out.2.2.2.2.1, ← HR.out.2.2.2.2.2]; exact hab)⟩
        obtain ⟨e1, e2⟩ := hab
        have g0 : wr.cell? ⟨w.heap.size + 1, 0, none⟩ = some (.int .i64 (ofF x1 y1 6 0)) := by rw [HR.out.2.2.1.cell, RV.of_cell _ _ (by decide)]
        have g1 : wr.cell? ⟨w.heap.size + 1, 1, none⟩ = some (.int .i64 (ofF x1 y1 6 1)) := by rw [HR.out.2.2.1.cell, RV.of_cell _ _ (by decide)]
        have g2 : wr.cell? ⟨w.heap.size + 1, 2, none⟩ = some (.int .i64 (ofF x1 y1 6 2)) := by rw [HR.out.2.2.1.cell, RV.of_cell _ _ (by decide)]
        have g3 : wr.cell? ⟨w.heap.size + 1, 3, none⟩ = some (.int .i64 (ofF x1 y1 6 3)) := by rw [HR.out.2.2.1.cell, RV.of_cell _ _ (by decide)]
        have g4 : wr.cell? ⟨w.heap.size + 1, 4, none⟩ = some (.int .i64 (ofF x1 y1 6 4)) := by rw [HR.out.2.2.1.cell, RV.of_cell _ _ (by decide)]
        have g5 : wr.cell? ⟨w.heap.size + 1, 5, none⟩ = some (.int .i64 (ofF x1 y1 6 5)) := by rw [HR.out.2.2.1.cell, RV.of_cell _ _ (by decide)]
        have g6 : wr.cell? ⟨w.heap.size + 1, 6, none⟩ = some (.int .i64 1) := by rw [HR.out.2.2.1.cell]; rfl
        have hfin : OfRes (.returned (.tuple #[.agg #[.int .i64 (ofF x1 y1 6 0), .int .i64 (ofF x1 y1 6 1), .int .i64 (ofF x1 y1 6 2), .int .i64 (ofF x1 y1 6 3), .int .i64 (ofF x1 y1 6 4), .int .i64 (ofF x1 y1 6 5), .int .i64 1], .int .i64 0])) (RV.of (ofF x1 y1 6) 1, 0) := rfl
        have HFIN : Sl _ := ⟨And.intro hfin (And.intro hB hRz)⟩
        subst e1 e2
        clear hfin hB hRz HR
        generalize ofF x1 y1 6 0 = z0 at g0 HFIN
        generalize ofF x1 y1 6 1 = z1 at g1 HFIN
        generalize ofF x1 y1 6 2 = z2 at g2 HFIN
        generalize ofF x1 y1 6 3 = z3 at g3 HFIN
        generalize ofF x1 y1 6 4 = z4 at g4 HFIN
        generalize ofF x1 y1 6 5 = z5 at g5 HFIN
        go_wp2_with fail
        refine bodyPost_ret (results_rowR rfl _ _ w.heap.size _ _ _ rfl (HFIN.out.2.2.seven _ _ _ _ _ _ _) Tryd.underlying34 rfl (by kernel_rfl)) rfl ?_
        exact ⟨by rw [HZR.out]; exact HFIN.out.1, below_seven HFIN.out.2.1 (Nat.le_refl _) _ _ _ _ _ _ _⟩
      · have HZR : Sl (s = (RVzero, 7)) := ⟨by rw [← HSS.out]; exact if_neg (by rw [← HR.out.2.2.2.2.1, ← HR.out.2.2.2.2.2]; exact hab)⟩
        have HFIN : Sl _ := ⟨And.intro hB hRz⟩
        clear hB hRz HR
        by_cases e1 : a = 1
        · have hb2 : ((b : Int) == 1) = false := by rw [beq_eq_false_iff_ne]; omega
          clear hab
          subst e1
          go_wp2_with fail
          refine bodyPost_ret (results_rowR rfl _ _ w.heap.size _ _ _ rfl (HFIN.out.2.seven _ _ _ _ _ _ _) Tryd.underlying34 rfl (by kernel_rfl)) rfl ?_
          exact ⟨by rw [HZR.out]; rfl, below_seven HFIN.out.1 (Nat.le_refl _) _ _ _ _ _ _ _⟩
        · have ha2 : ((a : Int) == 1) = false := by rw [beq_eq_false_iff_ne]; omega
          clear hab e1
          go_wp2_with fail
          refine bodyPost_ret (results_rowR rfl _ _ w.heap.size _ _ _ rfl (HFIN.out.2.seven _ _ _ _ _ _ _) Tryd.underlying34 rfl (by kernel_rfl)) rfl ?_
          exact ⟨by rw [HZR.out]; rfl, below_seven HFIN.out.1 (Nat.le_refl _) _ _ _ _ _ _ _⟩
end Go.Proofs.YtmcoadmnkelkkaaDoor
namespace Go.Proofs.YtmcoadmnkelkkaaDoor
set_option linter.unusedSimpArgs false
open Go.RowKit
set_option linter.unusedVariables false
set_option maxHeartbeats 3200000 in
set_option maxRecDepth 100000 in
theorem r4Of_any (a b : Int) (w : World) : Calls Tryd.prog 28 #[.int .i64 a, .int .i64 b] w fun e w' => OfRes e (ofS a b) ∧ Below w.heap.size w w' := by
  by_cases h : okN a ∧ okN b
  · obtain ⟨x, rfl⟩ := Int.eq_ofNat_of_zero_le (show 0 ≤ a by have := h.1.1; omega)
    obtain ⟨y, rfl⟩ := Int.eq_ofNat_of_zero_le (show 0 ≤ b by have := h.2.1; omega)
    have h1 := h.1.1
    have h2 := h.1.2
    have h3 := h.2.1
    have h4 := h.2.2
    refine r4Of_good x y w (by omega) (by omega) (by omega) (by omega) _ ?_
    rw [of_same (by omega) (by omega)]
    unfold ofS
    rw [if_pos h]
    simp only [Int.natAbs_natCast]
  · have hs : Sl (ofS a b = (RVzero, 2)) := ⟨by unfold ofS; rw [if_neg h]⟩
    have hu := (Below.refl w.heap.size w).alloc (Nat.le_refl _) (.cells RVzero.cells 34)
    have X4 := Blk.new w 34 RVzero.cells
    rw [RVzero_cells] at hu X4
    have HU : Sl _ := ⟨And.intro hu X4⟩
    clear hu X4
    obtain ⟨t, ht⟩ : ∃ t, ofS a b = t := ⟨_, rfl⟩
    rw [ht] at hs ⊢
    clear ht
    have hcase : (decide (a < 1) || decide (1000000000000 < a) || decide (b < 1) || decide (1000000000000 < b)) = true := by
      unfold okN at h
      simp only [Bool.or_eq_true, decide_eq_true_eq]
      omega
    clear h
    by_cases g1 : a < 1
    · clear hcase
      go_enter Tryd.func28, Tryd.ntmps28
      go_wp2_with fail
      refine bodyPost_ret (results_rowR rfl _ _ w.heap.size _ _ _ rfl HU.out.2 Tryd.underlying34 rfl (by kernel_rfl)) rfl ?_
      exact ⟨by rw [hs.out]; rfl, HU.out.1⟩
    · by_cases g2 : 1000000000000 < a
      · clear hcase
        go_enter Tryd.func28, Tryd.ntmps28
        go_wp2_with fail
        refine bodyPost_ret (results_rowR rfl _ _ w.heap.size _ _ _ rfl HU.out.2 Tryd.underlying34 rfl (by kernel_rfl)) rfl ?_
        exact ⟨by rw [hs.out]; rfl, HU.out.1⟩
      · by_cases g3 : b < 1
        · clear hcase
          go_enter Tryd.func28, Tryd.ntmps28
          go_wp2_with fail
          refine bodyPost_ret (results_rowR rfl _ _ w.heap.size _ _ _ rfl HU.out.2 Tryd.underlying34 rfl (by kernel_rfl)) rfl ?_
          exact ⟨by rw [hs.out]; rfl, HU.out.1⟩
        · have g4 : 1000000000000 < b := by
            simp only [Bool.or_eq_true, decide_eq_true_eq] at hcase
            omega
          clear hcase
          go_enter Tryd.func28, Tryd.ntmps28
          go_wp2_with fail
          refine bodyPost_ret (results_rowR rfl _ _ w.heap.size _ _ _ rfl HU.out.2 Tryd.underlying34 rfl (by kernel_rfl)) rfl ?_
          exact ⟨by rw [hs.out]; rfl, HU.out.1⟩
end Go.Proofs.YtmcoadmnkelkkaaDoor
namespace Go.Proofs.YtmcoadmnkelkkaaDoor
set_option linter.unusedSimpArgs false
open Go.RowKit
set_option linter.unusedVariables false
attribute [-simp] Tryd.isAgg34
set_option maxHeartbeats 1600000 in
set_option maxRecDepth 100000 in
theorem of5_any (a b : Int) (r : RV) (w : World) (hr : ofS a b = (r, 0)) : Calls Tryd.prog 12 #[.int .i64 a, .int .i64 b] w fun e w' => e = .returned (.agg r.cells) ∧ Below w.heap.size w w' := by
  have HB : Sl (Below w.heap.size w w) := ⟨Below.refl _ _⟩
  have H : Sl (∀ W : World, Calls Tryd.prog 28 #[.int .i64 a, .int .i64 b] W fun e w' => e = .returned (.tuple #[.agg r.cells, .int .i64 0]) ∧ Below W.heap.size W w') := ⟨fun W => by
    have := r4Of_any a b W
    rw [hr] at this
    exact this⟩
  clear hr
  go_enter Tryd.func12, Tryd.ntmps12
  go_wp2_with ((with_reducible show wpList _ _ _ _ _ _); first
    | (refine wpList_alloc_new 4 rfl rfl 34 rfl RVzero.cells alloc_ratio ?_; rintro w1 gA zg zm zs zb; have ORD : Sl (w.heap.size ≤ gA) := ⟨by have := HB.out.size; omega⟩; replace HB : Sl (Below w.heap.size w w1) := ⟨below_mv HB.out zm (by have := HB.out.size; have := ORD.out; omega) HB.out.size⟩; have XA : Sl (Blk w1 gA 34 RVzero.cells) := ⟨zb⟩; clear zg zm zs zb))
  refine (H.out _ ).mono ?_; rintro e w2 ⟨rfl, hb⟩
  replace HB : Sl (Below w.heap.size w w2) := ⟨HB.out.trans (hb.mono HB.out.size)⟩
  replace XA : Sl (Blk w2 gA 34 RVzero.cells) := ⟨XA.out.below hb XA.out.lt⟩
  clear hb
  go_wp2_with ((with_reducible show wpList _ _ _ _ _ _); first
    | (refine wpList_alloc_new 5 rfl rfl 34 rfl RVzero.cells alloc_ratio ?_; rintro w3 gB zg zm zs zb; replace ORD : Sl (w.heap.size ≤ gA ∧ gA < gB) := ⟨by have := HB.out.size; have := ORD.out; have := XA.out.lt; omega⟩; replace HB : Sl (Below w.heap.size w w3) := ⟨below_mv HB.out zm (by have := HB.out.size; have := ORD.out; omega) HB.out.size⟩; replace XA : Sl (Blk w3 gA 34 RVzero.cells) := ⟨XA.out.mv zm (by have := XA.out.lt; have := ORD.out; omega)⟩; have XB : Sl (Blk w3 gB 34 RVzero.cells) := ⟨zb⟩; clear zg zm zs zb)
    | (refine wpList_store_whole rfl 34 (.tmp 5) (.tmp 11) rfl gB r.cells rfl rfl 34 RVzero.cells XB.out rfl size_ratio (RV.cells_one _) ?_; rintro w4 zm zs zb; replace HB : Sl (Below w.heap.size w w4) := ⟨below_mv HB.out zm (by have := HB.out.size; have := ORD.out; omega) HB.out.size⟩; replace XA : Sl (Blk w4 gA 34 RVzero.cells) := ⟨XA.out.mv zm (by have := XA.out.lt; have := ORD.out; omega)⟩; replace XB : Sl (Blk w4 gB 34 r.cells) := ⟨zb⟩; clear zm zs zb)
    | (refine wpList_load_whole rfl 34 (.tmp 5) rfl gB rfl 34 r.cells _ XB.out Tryd.underlying34 rfl size_ratio ?_)
    | (refine wpList_store_whole rfl 34 (.tmp 4) (.tmp 13) rfl gA r.cells rfl rfl 34 RVzero.cells XA.out rfl size_ratio (RV.cells_one _) ?_; rintro w5 zm zs zb; replace HB : Sl (Below w.heap.size w w5) := ⟨below_mv HB.out zm (by have := HB.out.size; have := ORD.out; omega) HB.out.size⟩; replace XB : Sl (Blk w5 gB 34 r.cells) := ⟨XB.out.mv zm (by have := XB.out.lt; have := ORD.out; omega)⟩; replace XA : Sl (Blk w5 gA 34 r.cells) := ⟨zb⟩; clear zm zs zb))
  refine bodyPost_ret (results_cell_row rfl _ _ gA _ _ _ _ rfl XA.out Tryd.underlying34 rfl size_ratio) rfl ?_
  exact ⟨rfl, HB.out⟩
end Go.Proofs.YtmcoadmnkelkkaaDoor
namespace Go.Proofs.YtmcoadmnkelkkaaDoor
set_option linter.unusedSimpArgs false
open Go.RowKit
set_option linter.unusedVariables false
/-- the end of a region told by a block's number: the frame and what is known of the world -/
def BrQ (A : Nat → Act) (F : Nat → World → Prop) : Exit → Act → World → Prop
  | .normal, a, w => ∃ g, a = A g ∧ F g w
  | _, _, _ => False
theorem wp_branch {P : Program} {c : Code} {Q : Exit → Act → World → Prop} {a : Act} {w : World} (F : Nat → World → Prop) {A : Nat → Act} (h2 : c.wp P (BrQ A F) a w) (h1 : ∀ g w', F g w' → Q .normal (A g) w') : c.wp P Q a w :=
  Code.wp_mono (fun e a' w' h => by
    cases e <;> first | exact h.elim | (obtain ⟨g, rfl, hF⟩ := h; exact h1 g w' hF)) h2
section
variable {P : Program} {ops : Array Oper} {Q : Exit → Act → World → Prop} {md : Region.Mode} {S : World → Prop}
/-- one of two operations comes up next -/
theorem wpAnyH_two (i j : Nat) {oi oj : Oper} {fuel : Nat} {listed : Array Bool} {a : Act} {w : World} (hi0 : ops.toList[i]? = some oi) (hj0 : ops.toList[j]? = some oj) (hr : Region.ready md ops listed = [i, j]) (hgi : oi.guard = none) (hgj : oj.guard = none)
    (h1 : ∀ K' : Act → World → Prop, Shut (∀ a w, S w → (S w → wpAnyH P md ops Q S fuel (listed.setIfInBounds i true) a w) → K' a w) → Oper.wp P oi a w K' Q)
    (h2 : ∀ K' : Act → World → Prop, Shut (∀ a w, S w → (S w → wpAnyH P md ops Q S fuel (listed.setIfInBounds j true) a w) → K' a w) → Oper.wp P oj a w K' Q) : wpAnyH P md ops Q S (fuel + 1) listed a w :=
  have hi : ops[i]? = some oi := by rw [← Array.getElem?_toList]; exact hi0
  have hj : ops[j]? = some oj := by rw [← Array.getElem?_toList]; exact hj0
  wpAnyH_ready hr (by simp) (AllReadyH.cons hi (fun K' hK => by
    have hw : Region.wanted oi (yielded ops a.tmps) = true := by simp [Region.wanted, hgi]
    rw [if_pos hw]
    exact h1 K' hK) (AllReadyH.cons hj (fun K' hK => by
    have hw : Region.wanted oj (yielded ops a.tmps) = true := by simp [Region.wanted, hgj]
    rw [if_pos hw]
    exact h2 K' hK) AllReadyH.nil))
end
section
variable {P : Program} {op : Oper} {a : Act} {w : World} {K : Act → World → Prop} {Q : Exit → Act → World → Prop}
theorem wp_alloc_new (ty : TypeId) (ho : op.op = .alloc ty) (cells : Array Value)
    (hz : ∀ w, (Instr.alloc ty true (.tuple #[])).run P w = .ok (.pointer (some ⟨w.heap.size, 0, none⟩)) (w.alloc (.cells cells ty)))
    (h : ∀ w' g, g = w.heap.size → Below w.heap.size w w' → w'.heap.size = g + 1 → Blk w' g ty cells → K (a.put op.dst (.pointer (some ⟨g, 0, none⟩))) w') : op.wp P a w K Q := by
  have hrun : (execOp a.eval op).run P w = .ok (.value (.pointer (some ⟨w.heap.size, 0, none⟩))) (w.alloc (.cells cells ty)) := by
    unfold execOp
    simp only [ho, Sem.run_bind, hz, Result.andThen_ok, Sem.run_pure]
  unfold Oper.wp
  rw [hrun, Oper.upon_value]
  exact h _ _ rfl ((Below.refl _ _).alloc (Nat.le_refl _) _) (by simp) (Blk.new w ty cells)
end
end Go.Proofs.YtmcoadmnkelkkaaDoor
namespace Go.Proofs.YtmcoadmnkelkkaaDoor
set_option linter.unusedSimpArgs false
open Go.RowKit
set_option linter.unusedVariables false
section
variable {P : Program} {ops : Array Oper} {Q : Exit → Act → World → Prop} {md : Region.Mode} {S : World → Prop}
/-- a guarded load whose guard holds, taken first -/
theorem wpAnyH_loadg (i : Nat) {oi : Oper} {fuel : Nat} {listed : Array Bool} {a : Act} {w : World} (ty : TypeId) (x : Operand) (hi0 : ops.toList[i]? = some oi) (ho : oi.op = .load ty x) (hg : Region.wanted oi (yielded ops a.tmps) = true)
    (g o : Nat) (hx : a.eval x = .pointer (some ⟨g, o, none⟩)) (vs : Array Value) (d : TypeDesc) (hR : ∀ w, S w → w.rangeAt g o vs.toList) (hu : P.underlying ty = some d) (hd : d.isRow = true) (hz : (P.info? ty).map (·.size) = some vs.size)
    (hs : Region.noSelect ops = true) (hf : Region.free md ops listed i = true) (hr : (Region.ready md ops listed).contains i = true)
    (hQ : ∀ c a w, Q (.panic c) (a.put oi.dst (.agg vs)) w → Q (.panic c) a w) (hS : S w)
    (h : wpAnyH P md ops Q S fuel (listed.setIfInBounds i true) (a.put oi.dst (.agg vs)) w) : wpAnyH P md ops Q S (fuel + 1) listed a w := by
  have hi : ops[i]? = some oi := by rw [← Array.getElem?_toList]; exact hi0
  have hy := yieldsIf_load_mid (P := P) (ops := ops) (S := S) (op := oi) (a := a) hg ty x ho g o hx vs.toList d hR hu hd (by rw [hz]; simp)
  rw [Array.toArray_toList] at hy
  exact wpAnyH_take hi hs hf hr hQ hy hS h
/-- a guarded operation whose guard holds, which yields whatever the world is, taken first -/
theorem wpAnyH_pureg (i : Nat) {oi : Oper} {v : Value} {fuel : Nat} {listed : Array Bool} {a : Act} {w : World} (hi0 : ops.toList[i]? = some oi)
    (hs : Region.noSelect ops = true) (hf : Region.free md ops listed i = true) (hr : (Region.ready md ops listed).contains i = true)
    (hQ : ∀ c a w, Q (.panic c) (a.put oi.dst v) w → Q (.panic c) a w) (hg : Region.wanted oi (yielded ops a.tmps) = true) (hy : ∀ w, (execOp a.eval oi).run P w = .ok (.value v) w) (hS : S w)
    (h : wpAnyH P md ops Q S fuel (listed.setIfInBounds i true) (a.put oi.dst v) w) : wpAnyH P md ops Q S (fuel + 1) listed a w :=
  have hi : ops[i]? = some oi := by rw [← Array.getElem?_toList]; exact hi0
  wpAnyH_take hi hs hf hr hQ (.inl ⟨hg, fun w _ => hy w⟩) hS h
/-- a guarded operation whose guard does not hold, taken first -/
theorem wpAnyH_no (i : Nat) {oi : Oper} {fuel : Nat} {listed : Array Bool} {a : Act} {w : World} (hi0 : ops.toList[i]? = some oi)
    (hs : Region.noSelect ops = true) (hf : Region.free md ops listed i = true) (hr : (Region.ready md ops listed).contains i = true)
    (hQ : ∀ c a w, Q (.panic c) (a.put oi.dst undef) w → Q (.panic c) a w) (hg : Region.wanted oi (yielded ops a.tmps) = false) (hS : S w)
    (h : wpAnyH P md ops Q S fuel (listed.setIfInBounds i true) (a.put oi.dst undef) w) : wpAnyH P md ops Q S (fuel + 1) listed a w :=
  have hi : ops[i]? = some oi := by rw [← Array.getElem?_toList]; exact hi0
  wpAnyH_take hi hs hf hr hQ (.inr ⟨hg, rfl⟩) hS h
end
end Go.Proofs.YtmcoadmnkelkkaaDoor
namespace Go.Proofs.YtmcoadmnkelkkaaDoor
set_option linter.unusedSimpArgs false
open Go.RowKit
set_option linter.unusedVariables false
attribute [-simp] Tryd.isAgg26 Tryd.isAgg24 Tryd.isAgg34
set_option maxRecDepth 100000 in
theorem eqR (a b : RV) : ∃ β : Bool, (∀ W : World, (Op.equalIn 9999 32 (.agg a.nums) (.agg b.nums)).run Tryd.prog W = .ok β W) ∧ (a = b → β = true) := by
  have hsome : (Tryd.prog.info? 3).isSome = true := by kernel_rfl
  obtain ⟨i, hi⟩ := Option.isSome_iff_exists.1 hsome
  have hc : Tryd.prog.cellsOf 3 = 1 := by kernel_rfl
  have he : ∀ (W : World) (x y : Int), (Op.equalIn 9998 3 (.int .i64 x) (.int .i64 y)).run Tryd.prog W = .ok (decide (x = y)) W := fun W x y => by
    rw [run_equalIn_int (P := Tryd.prog) W 9997 3 .i64 .i64 x y Tryd.underlying3]
    by_cases h : x = y <;> simp [h]
  have hl : List.range 6 = [0, 1, 2, 3, 4, 5] := by decide
  refine ⟨decide (a.n0 = b.n0) && (decide (a.n1 = b.n1) && (decide (a.n2 = b.n2) && (decide (a.n3 = b.n3) && (decide (a.n4 = b.n4) && decide (a.n5 = b.n5))))), fun W => ?_, fun e => by rw [e]; simp⟩
  unfold RV.nums
  rw [run_equalIn_array W 9998 _ _ Tryd.underlying32 hi, hc, hl]
  by_cases h0 : a.n0 = b.n0
  · by_cases h1 : a.n1 = b.n1
    · by_cases h2 : a.n2 = b.n2
      · by_cases h3 : a.n3 = b.n3
        · by_cases h4 : a.n4 = b.n4
          · by_cases h5 : a.n5 = b.n5 <;> simp [Op.eqItems, Sem.run_bind, part6_0, part6_1, part6_2, part6_3, part6_4, part6_5, he, Result.andThen, h0, h1, h2, h3, h4, h5]
          · simp [Op.eqItems, Sem.run_bind, part6_0, part6_1, part6_2, part6_3, part6_4, he, Result.andThen, h0, h1, h2, h3, h4]
        · simp [Op.eqItems, Sem.run_bind, part6_0, part6_1, part6_2, part6_3, he, Result.andThen, h0, h1, h2, h3]
      · simp [Op.eqItems, Sem.run_bind, part6_0, part6_1, part6_2, he, Result.andThen, h0, h1, h2]
    · simp [Op.eqItems, Sem.run_bind, part6_0, part6_1, he, Result.andThen, h0, h1]
  · simp [Op.eqItems, Sem.run_bind, part6_0, he, Result.andThen, h0]
/-- two intervals, one after the other -/
noncomputable def TP.sm (t : TP) (a b c j : Nat) : Int := t.b a b j + t.b b c j
noncomputable def TP.up (t : TP) (a c j : Nat) : Int := t.b a c j + oct t.D j
theorem oct_bd {D : Int} (hD : 1 ≤ D ∧ D ≤ 120) (j : Nat) : 0 ≤ oct D j ∧ oct D j ≤ 120 := by unfold oct; split <;> omega
theorem TP.Ok.b_le {t : TP} (h : t.Ok) {a b : Nat} (ha : a ≤ 12) (hb : b ≤ 12) {j : Nat} (hj : j < 6) : -99800 ≤ t.b a b j ∧ t.b a b j ≤ 99800 := by
  obtain ⟨y1, y2, ⟨y3, y4, y5⟩, lo, hi⟩ := h.b_tame ha hb
  have hD := h.hD
  obtain ⟨y, hy⟩ : ∃ y : Nat → Int, y = fun j => if j = 0 then 0 else t.b a b j := ⟨_, rfl⟩
  have z1 : SS ((2 * 37000 + 3 * 3500 + 1 : Nat) : Int) y := by
    subst hy
    exact pv_bits (A := 37000) (B := 3500) y1.2 y2.2 rfl y3 y4 y5
  have z2 : SS ((2 * 37000 + 3 * 3500 + 1 : Nat) : Int) (fun j => -y j) := by
    subst hy
    refine pv_bits (A := 37000) (B := 3500) ?_ ?_ rfl ?_ ?_ ?_
    · show -t.b a b 1 ≤ _; omega
    · show -t.b a b 2 ≤ _; omega
    · show -t.b a b 3 = 0; omega
    · show -t.b a b 4 = 0; omega
    · show -t.b a b 5 = 0; omega
  have hz : ∀ j, j < 6 → y j + oct (t.b a b 0) j = t.b a b j := fun j _ => by
    subst hy
    unfold oct
    show (if j = 0 then 0 else t.b a b j) + (if j = 0 then t.b a b 0 else 0) = t.b a b j
    split
    · rename_i hj; subst hj; omega
    · omega
  have a1 := lo.lt ((z1.addQ (oct_is (t.b a b 0))).congr hz)
  have a2 := (oct_is (t.b a b 0)).tt.lt ((hi.add z2).congr (g := oct (t.b a b 0)) fun j hj => by have := hz j hj; omega)
  have hj6 : j = 0 ∨ j = 1 ∨ j = 2 ∨ j = 3 ∨ j = 4 ∨ j = 5 := by omega
  rcases hj6 with rfl | rfl | rfl | rfl | rfl | rfl <;> omega
theorem TP.Ok.up_fits {t : TP} (h : t.Ok) {a c : Nat} (ha : a < 12) (hc : c < 12) : fitsV (t.up a c) t.D := ⟨by have := h.hD; omega, fun j hj => by
  have h1 := h.b_le (a := a) (b := c) (by omega) (by omega) hj
  have h2 := oct_bd h.hD j
  unfold TP.up
  omega⟩
theorem TP.Ok.sm_is {t : TP} (h : t.Ok) {a b c : Nat} (ha : a < 12) (hb : b < 12) (hc : c < 12) : nr (t.sm a b c) t.D = nr (t.b a c) t.D ∨ nr (t.sm a b c) t.D = nr (t.up a c) t.D := by
  rcases h.sum_b ha hb hc with g | g
  · exact .inl (nr_congr g)
  · exact .inr (nr_congr g)
theorem TP.Ok.sm_fits {t : TP} (h : t.Ok) {a b c : Nat} (ha : a < 12) (hb : b < 12) (hc : c < 12) : fitsV (t.sm a b c) t.D := ⟨by have := h.hD; omega, fun j hj => by
  have h1 := h.b_le (a := a) (b := c) (by omega) (by omega) hj
  have h2 := oct_bd h.hD j
  have h3 : t.sm a b c j = t.b a c j ∨ t.sm a b c j = t.b a c j + oct t.D j := by
    rcases h.sum_b ha hb hc with g | g
    · exact .inl (g j hj)
    · exact .inr (g j hj)
  omega⟩
theorem TP.Ok.sm_join {t : TP} (h : t.Ok) {a b c : Nat} (ha : a < 12) (hb : b < 12) (hc : c < 12) : joinS (nr (t.b a b) t.D) (nr (t.b b c) t.D) 1 = (nr (t.sm a b c) t.D, 0) :=
  join_nr (h.b_fits (by omega) (by omega)) (h.b_fits (by omega) (by omega)) (h.sm_fits ha hb hc) fun j _ => by unfold TP.sm; omega
theorem TP.Ok.up_join {t : TP} (h : t.Ok) {a c : Nat} (ha : a < 12) (hc : c < 12) : joinS (nr (t.b a c) t.D) (nr (v3 1 0 0) 1) 1 = (nr (t.up a c) t.D, 0) := by
  rw [nr_up _ h.hD.1]
  refine join_nr (h.b_fits (by omega) (by omega)) (_root_.Go.Proofs.YtmcoadmnkelkkaaDoor.up_fits h.hD fun j hj => by revert j; decide) (h.up_fits ha hc) fun j hj => ?_
  unfold TP.up
  have e : v3 1 0 0 j = if j = 0 then 1 else 0 := by revert j; decide
  rw [e]
  unfold oct
  split <;> omega
theorem TP.Ok.sm_oct {t : TP} (h : t.Ok) {a b : Nat} (ha : a < 12) (hb : b < 12) (hne : a ≠ b) : nr (t.sm a b a) t.D = nr (v3 1 0 0) 1 := by
  rw [nr_up _ h.hD.1]
  refine nr_congr fun j hj => ?_
  have e : v3 1 0 0 j = if j = 0 then 1 else 0 := by revert j; decide
  rw [e, show t.sm a b a j = oct t.D j from h.octave ha hb hne j hj]
  unfold oct
  split <;> omega
theorem TP.Ok.b_one {t : TP} (h : t.Ok) {a : Nat} : nr (t.b a a) t.D = nr (v3 0 0 0) 1 := by
  rw [nr_up _ h.hD.1]
  refine nr_congr fun j hj => ?_
  have e : v3 0 0 0 j = 0 := by revert j; decide
  rw [e, h.b_self]
  omega
theorem RV.d_cell (r : RV) : r.cells[6]? = some (.int .i64 r.d) := by kernel_rfl
set_option maxHeartbeats 6400000 in
set_option maxRecDepth 100000 in
theorem temperAdds_any (t : TV) (hs : t.nm.size ≤ maxLen) (a b c : Nat) (ha : a < 256) (hb : b < 256) (hc : c < 256) (w : World) (hT : PrT w) : Calls Tryd.prog 4 #[.agg t.cells, .agg (c3 a b c)] w fun e w' => e = .returned (.bool true) ∧ Below w.heap.size w w' := by
  have HB : Sl (Below w.heap.size w w) := ⟨Below.refl _ _⟩
  have HT : Sl _ := ⟨hT⟩
  have HS : Sl _ := ⟨hs⟩
  have HCK : Sl _ := ⟨fun W : World => r5check_any t W hs⟩
  have HAW : Sl _ := ⟨fun (W : World) (h : PrT W) => awake5_any W h⟩
  clear hT hs
  obtain ⟨er, her⟩ : ∃ x, t.chk nameS = x := ⟨_, rfl⟩
  rw [her] at HCK
  have HER : Sl _ := ⟨her⟩
  clear her
  have HABC : Sl _ := ⟨And.intro ha (And.intro hb hc)⟩
  clear ha hb hc
  go_enter Tryd.func4, Tryd.ntmps4
  go_wp2_with ((with_reducible show wpList _ _ _ _ _ _); first
    | (refine wpList_box_new 2 rfl rfl 26 (.tmp 0) rfl t.cells rfl (box_temper t) ?_; rintro w1 gT zg zm zs zb; have ORD : Sl (w.heap.size ≤ gT) := ⟨by have := HB.out.size; omega⟩; replace HB : Sl (Below w.heap.size w w1) := ⟨below_mv HB.out zm (by have := HB.out.size; have := ORD.out; omega) HB.out.size⟩; have XT : Sl (Blk w1 gT 26 t.cells) := ⟨zb⟩; clear zg zm zs zb)
    | (refine wpList_box_new 3 rfl rfl 31 (.tmp 1) rfl (c3 a b c) rfl (box_three a b c) ?_; rintro w2 gL zg zm zs zb; replace ORD : Sl (w.heap.size ≤ gT ∧ gT < gL) := ⟨by have := HB.out.size; have := ORD.out; have := XT.out.lt; omega⟩; replace HB : Sl (Below w.heap.size w w2) := ⟨below_mv HB.out zm (by have := HB.out.size; have := ORD.out; omega) HB.out.size⟩; replace XT : Sl (Blk w2 gT 26 t.cells) := ⟨XT.out.mv zm (by have := XT.out.lt; have := ORD.out; omega)⟩; have XL : Sl (Blk w2 gL 31 (c3 a b c)) := ⟨zb⟩; clear zg zm zs zb)
    | (refine wpList_load_whole rfl 26 (.tmp 2) rfl gT rfl 26 t.cells _ XT.out Tryd.underlying26 rfl (size_temper t) ?_))
  refine (HCK.out _).mono ?_; rintro e w3 ⟨rfl, hb⟩
  replace HB : Sl (Below w.heap.size w w3) := ⟨HB.out.trans (hb.mono HB.out.size)⟩
  replace XT : Sl (Blk w3 gT 26 t.cells) := ⟨XT.out.below hb XT.out.lt⟩
  replace XL : Sl (Blk w3 gL 31 (c3 a b c)) := ⟨XL.out.below hb XL.out.lt⟩
  clear hb
  by_cases h0 : er = 0
  · subst h0
    go_wp2_with fail
    obtain ⟨ha, hb, hc⟩ := HABC.out
    have l0 : w3.cell? ⟨gL, 0, none⟩ = some (.int .u8 (a : Int)) := XL.out.cell 0
    have l1 : w3.cell? ⟨gL, 1, none⟩ = some (.int .u8 (b : Int)) := XL.out.cell 1
    have l2 : w3.cell? ⟨gL, 2, none⟩ = some (.int .u8 (c : Int)) := XL.out.cell 2
    have ta : (a : Int).tmod 12 = ((a % 12 : Nat) : Int) := by rw [Int.tmod_eq_emod_of_nonneg (by omega)]; omega
    have tb : (b : Int).tmod 12 = ((b % 12 : Nat) : Int) := by rw [Int.tmod_eq_emod_of_nonneg (by omega)]; omega
    have tc : (c : Int).tmod 12 = ((c % 12 : Nat) : Int) := by rw [Int.tmod_eq_emod_of_nonneg (by omega)]; omega
    go_quiet (fail)
    clear l0 l1 l2 ta tb tc
    obtain ⟨x, hx⟩ : ∃ x : Nat, (a : Int) % 12 = (x : Int) := ⟨a % 12, by omega⟩
    obtain ⟨y, hy⟩ : ∃ x : Nat, (b : Int) % 12 = (x : Int) := ⟨b % 12, by omega⟩
    obtain ⟨z, hz⟩ : ∃ x : Nat, (c : Int) % 12 = (x : Int) := ⟨c % 12, by omega⟩
    have hx12 : x < 12 := by omega
    have hy12 : y < 12 := by omega
    have hz12 : z < 12 := by omega
    rw [hx, hy, hz]
    clear hx hy hz ha hb hc
    replace HB : Sl (Below w.heap.size w (w3.drewN nq)) := ⟨below_drewN HB.out nq⟩
    replace XT : Sl (Blk (w3.drewN nq) gT 26 t.cells) := ⟨XT.out⟩
    clear XL
    generalize w3.drewN nq = wq at *
    have HTO : Sl _ := ⟨TV.tp_ok HER.out⟩
    obtain ⟨p, hp⟩ : ∃ p, 7 * x % 12 = p := ⟨_, rfl⟩
    obtain ⟨q, hq⟩ : ∃ p, 7 * y % 12 = p := ⟨_, rfl⟩
    obtain ⟨r, hr⟩ : ∃ p, 7 * z % 12 = p := ⟨_, rfl⟩
    have hp12 : p < 12 := by omega
    have hq12 : q < 12 := by omega
    have hr12 : r < 12 := by omega
    have HPQ : Sl (x ≠ y → p ≠ q) := ⟨fun h h2 => h (by omega)⟩
    have HPE : Sl (x = y → p = q) := ⟨fun h => by rw [← hp, ← hq, h]⟩
    have hB1 : t.B x y = nr (t.tp.b p q) t.tp.D := by unfold TV.B; rw [Nat.mod_eq_of_lt hy12, hp, hq]
    have hB2 : t.B y z = nr (t.tp.b q r) t.tp.D := by unfold TV.B; rw [Nat.mod_eq_of_lt hz12, hq, hr]
    have hB3 : t.B x z = nr (t.tp.b p r) t.tp.D := by unfold TV.B; rw [Nat.mod_eq_of_lt hz12, hp, hr]
    have hB4 : t.B y x = nr (t.tp.b q p) t.tp.D := by unfold TV.B; rw [Nat.mod_eq_of_lt hx12, hq, hp]
    have HBT : Sl (∀ u v : Nat, u < 12 → v < 12 → ∀ W : World, PrT W → Calls Tryd.prog 10 #[.agg t.cells, .int .i64 (u : Int), .int .i64 (v : Int)] W fun e w' => e = .returned (.tuple #[.agg (t.B u v).cells, .int .i64 0]) ∧ Below W.heap.size W w') := ⟨fun u v hu hv W h => by
      have := tbetween_any t HS.out (u : Int) (v : Int) W h
      rw [TV.btw_ok HER.out hu hv] at this
      exact this⟩
    have HM1 := fun W => r4Mul_any (nr (t.tp.b p q) t.tp.D) (nr (t.tp.b q r) t.tp.D) W
    rw [HTO.out.sm_join hp12 hq12 hr12] at HM1
    have HM2 := fun W => r4Mul_any (nr (t.tp.b p q) t.tp.D) (nr (t.tp.b q p) t.tp.D) W
    rw [HTO.out.sm_join hp12 hq12 hp12] at HM2
    have HM3 := fun W => r4Mul_any (nr (t.tp.b p r) t.tp.D) (nr (v3 1 0 0) 1) W
    rw [HTO.out.up_join hp12 hr12] at HM3
    have hor := HTO.out.sm_is hp12 hq12 hr12
    have hoct : x ≠ y → nr (t.tp.sm p q p) t.tp.D = nr (v3 1 0 0) 1 := fun h => HTO.out.sm_oct hp12 hq12 (HPQ.out h)
    have hone : x = y → nr (t.tp.b p q) t.tp.D = nr (v3 0 0 0) 1 := fun h => by rw [HPE.out h]; exact HTO.out.b_one
    have HB1 := HBT.out x y hx12 hy12
    have HB2 := HBT.out y z hy12 hz12
    have HB3 := HBT.out x z hx12 hz12
    have HB4 := HBT.out y x hy12 hx12
    rw [hB1] at HB1
    rw [hB2] at HB2
    rw [hB3] at HB3
    rw [hB4] at HB4
    have HC1 := fun W => of5_any _ _ _ W of_one
    have HC2 := fun W => of5_any _ _ _ W of_two
    unfold OfRes at HM1 HM2 HM3
    simp only at HM1 HM2 HM3
    generalize nr (t.tp.b p q) t.tp.D = r1 at *
    generalize nr (t.tp.b q r) t.tp.D = r2 at *
    generalize nr (t.tp.b p r) t.tp.D = r3 at *
    generalize nr (t.tp.b q p) t.tp.D = r4 at *
    generalize nr (t.tp.sm p q r) t.tp.D = rs at *
    generalize nr (t.tp.sm p q p) t.tp.D = ro at *
    generalize nr (t.tp.up p r) t.tp.D = ru at *
    generalize nr (v3 1 0 0) 1 = q2 at *
    generalize nr (v3 0 0 0) 1 = q1 at *
    clear hB1 hB2 hB3 hB4 hp hq hr hp12 hq12 hr12 HPQ HPE HBT
    replace HM1 : Sl _ := ⟨HM1⟩
    replace HM2 : Sl _ := ⟨HM2⟩
    replace HM3 : Sl _ := ⟨HM3⟩
    replace HB1 : Sl _ := ⟨HB1⟩
    replace HB2 : Sl _ := ⟨HB2⟩
    replace HB3 : Sl _ := ⟨HB3⟩
    replace HB4 : Sl _ := ⟨HB4⟩
    replace HC1 : Sl _ := ⟨HC1⟩
    replace HC2 : Sl _ := ⟨HC2⟩
    have HOR : Sl _ := ⟨hor⟩
    have HOC : Sl _ := ⟨hoct⟩
    have HON : Sl _ := ⟨hone⟩
    clear hor hoct hone
    replace ORD : Sl (w.heap.size ≤ gT) := ⟨ORD.out.1⟩
    go_wp2_with ((with_reducible show wpList _ _ _ _ _ _); first
      | (refine wpList_load_whole rfl 26 (.tmp 2) rfl gT rfl 26 t.cells _ XT.out Tryd.underlying26 rfl (size_temper t) ?_))
    refine (HB1.out _ (HT.out.below HB.out)).mono ?_; rintro e w4 ⟨rfl, hb⟩
    replace HB : Sl (Below w.heap.size w w4) := ⟨HB.out.trans (hb.mono HB.out.size)⟩
    replace XT : Sl (Blk w4 gT 26 t.cells) := ⟨XT.out.below hb XT.out.lt⟩
    clear hb
    go_wp2_with ((with_reducible show wpList _ _ _ _ _ _); first
      | (refine wpList_alloc_new 8 rfl rfl 34 rfl RVzero.cells alloc_ratio ?_; rintro w5 gX zg zm zs zb; replace ORD : Sl (w.heap.size ≤ gT ∧ gT < gX) := ⟨by have := HB.out.size; have := ORD.out; have := XT.out.lt; omega⟩; replace HB : Sl (Below w.heap.size w w5) := ⟨below_mv HB.out zm (by have := HB.out.size; have := ORD.out; omega) HB.out.size⟩; replace XT : Sl (Blk w5 gT 26 t.cells) := ⟨XT.out.mv zm (by have := XT.out.lt; have := ORD.out; omega)⟩; have XX : Sl (Blk w5 gX 34 RVzero.cells) := ⟨zb⟩; clear zg zm zs zb)
      | (refine wpList_store_whole rfl 34 (.tmp 8) (.tmp 43) rfl gX r1.cells rfl rfl 34 RVzero.cells XX.out rfl size_ratio (RV.cells_one _) ?_; rintro w6 zm zs zb; replace HB : Sl (Below w.heap.size w w6) := ⟨below_mv HB.out zm (by have := HB.out.size; have := ORD.out; omega) HB.out.size⟩; replace XT : Sl (Blk w6 gT 26 t.cells) := ⟨XT.out.mv zm (by have := XT.out.lt; have := ORD.out; omega)⟩; replace XX : Sl (Blk w6 gX 34 r1.cells) := ⟨zb⟩; clear zm zs zb)
      | (refine wpList_load_whole rfl 26 (.tmp 2) rfl gT rfl 26 t.cells _ XT.out Tryd.underlying26 rfl (size_temper t) ?_))
    refine (HB2.out _ (HT.out.below HB.out)).mono ?_; rintro e w7 ⟨rfl, hb⟩
    replace HB : Sl (Below w.heap.size w w7) := ⟨HB.out.trans (hb.mono HB.out.size)⟩
    replace XT : Sl (Blk w7 gT 26 t.cells) := ⟨XT.out.below hb XT.out.lt⟩
    replace XX : Sl (Blk w7 gX 34 r1.cells) := ⟨XX.out.below hb XX.out.lt⟩
    clear hb
    go_wp2_with ((with_reducible show wpList _ _ _ _ _ _); first
      | (refine wpList_alloc_new 10 rfl rfl 34 rfl RVzero.cells alloc_ratio ?_; rintro w8 gY zg zm zs zb; replace ORD : Sl (w.heap.size ≤ gT ∧ gT < gX ∧ gX < gY) := ⟨by have := HB.out.size; have := ORD.out; have := XT.out.lt; have := XX.out.lt; omega⟩; replace HB : Sl (Below w.heap.size w w8) := ⟨below_mv HB.out zm (by have := HB.out.size; have := ORD.out; omega) HB.out.size⟩; replace XT : Sl (Blk w8 gT 26 t.cells) := ⟨XT.out.mv zm (by have := XT.out.lt; have := ORD.out; omega)⟩; replace XX : Sl (Blk w8 gX 34 r1.cells) := ⟨XX.out.mv zm (by have := XX.out.lt; have := ORD.out; omega)⟩; have XY : Sl (Blk w8 gY 34 RVzero.cells) := ⟨zb⟩; clear zg zm zs zb)
      | (refine wpList_store_whole rfl 34 (.tmp 10) (.tmp 50) rfl gY r2.cells rfl rfl 34 RVzero.cells XY.out rfl size_ratio (RV.cells_one _) ?_; rintro w9 zm zs zb; replace HB : Sl (Below w.heap.size w w9) := ⟨below_mv HB.out zm (by have := HB.out.size; have := ORD.out; omega) HB.out.size⟩; replace XT : Sl (Blk w9 gT 26 t.cells) := ⟨XT.out.mv zm (by have := XT.out.lt; have := ORD.out; omega)⟩; replace XX : Sl (Blk w9 gX 34 r1.cells) := ⟨XX.out.mv zm (by have := XX.out.lt; have := ORD.out; omega)⟩; replace XY : Sl (Blk w9 gY 34 r2.cells) := ⟨zb⟩; clear zm zs zb)
      | (refine wpList_load_whole rfl 26 (.tmp 2) rfl gT rfl 26 t.cells _ XT.out Tryd.underlying26 rfl (size_temper t) ?_))
    refine (HB3.out _ (HT.out.below HB.out)).mono ?_; rintro e w10 ⟨rfl, hb⟩
    replace HB : Sl (Below w.heap.size w w10) := ⟨HB.out.trans (hb.mono HB.out.size)⟩
    replace XT : Sl (Blk w10 gT 26 t.cells) := ⟨XT.out.below hb XT.out.lt⟩
    replace XX : Sl (Blk w10 gX 34 r1.cells) := ⟨XX.out.below hb XX.out.lt⟩
    replace XY : Sl (Blk w10 gY 34 r2.cells) := ⟨XY.out.below hb XY.out.lt⟩
    clear hb
    go_wp2_with ((with_reducible show wpList _ _ _ _ _ _); first
      | (refine wpList_alloc_new 12 rfl rfl 34 rfl RVzero.cells alloc_ratio ?_; rintro w11 gZ zg zm zs zb; replace ORD : Sl (w.heap.size ≤ gT ∧ gT < gX ∧ gX < gY ∧ gY < gZ) := ⟨by have := HB.out.size; have := ORD.out; have := XT.out.lt; have := XX.out.lt; have := XY.out.lt; omega⟩; replace HB : Sl (Below w.heap.size w w11) := ⟨below_mv HB.out zm (by have := HB.out.size; have := ORD.out; omega) HB.out.size⟩; replace XT : Sl (Blk w11 gT 26 t.cells) := ⟨XT.out.mv zm (by have := XT.out.lt; have := ORD.out; omega)⟩; replace XX : Sl (Blk w11 gX 34 r1.cells) := ⟨XX.out.mv zm (by have := XX.out.lt; have := ORD.out; omega)⟩; replace XY : Sl (Blk w11 gY 34 r2.cells) := ⟨XY.out.mv zm (by have := XY.out.lt; have := ORD.out; omega)⟩; have XZ : Sl (Blk w11 gZ 34 RVzero.cells) := ⟨zb⟩; clear zg zm zs zb)
      | (refine wpList_store_whole rfl 34 (.tmp 12) (.tmp 57) rfl gZ r3.cells rfl rfl 34 RVzero.cells XZ.out rfl size_ratio (RV.cells_one _) ?_; rintro w12 zm zs zb; replace HB : Sl (Below w.heap.size w w12) := ⟨below_mv HB.out zm (by have := HB.out.size; have := ORD.out; omega) HB.out.size⟩; replace XT : Sl (Blk w12 gT 26 t.cells) := ⟨XT.out.mv zm (by have := XT.out.lt; have := ORD.out; omega)⟩; replace XX : Sl (Blk w12 gX 34 r1.cells) := ⟨XX.out.mv zm (by have := XX.out.lt; have := ORD.out; omega)⟩; replace XY : Sl (Blk w12 gY 34 r2.cells) := ⟨XY.out.mv zm (by have := XY.out.lt; have := ORD.out; omega)⟩; replace XZ : Sl (Blk w12 gZ 34 r3.cells) := ⟨zb⟩; clear zm zs zb)
      | (refine wpList_load_whole rfl 26 (.tmp 2) rfl gT rfl 26 t.cells _ XT.out Tryd.underlying26 rfl (size_temper t) ?_))
    refine (HB4.out _ (HT.out.below HB.out)).mono ?_; rintro e w13 ⟨rfl, hb⟩
    replace HB : Sl (Below w.heap.size w w13) := ⟨HB.out.trans (hb.mono HB.out.size)⟩
    replace XT : Sl (Blk w13 gT 26 t.cells) := ⟨XT.out.below hb XT.out.lt⟩
    replace XX : Sl (Blk w13 gX 34 r1.cells) := ⟨XX.out.below hb XX.out.lt⟩
    replace XY : Sl (Blk w13 gY 34 r2.cells) := ⟨XY.out.below hb XY.out.lt⟩
    replace XZ : Sl (Blk w13 gZ 34 r3.cells) := ⟨XZ.out.below hb XZ.out.lt⟩
    clear hb
    go_wp2_with ((with_reducible show wpList _ _ _ _ _ _); first
      | (refine wpList_alloc_new 14 rfl rfl 34 rfl RVzero.cells alloc_ratio ?_; rintro w14 gV zg zm zs zb; replace ORD : Sl (w.heap.size ≤ gT ∧ gT < gX ∧ gX < gY ∧ gY < gZ ∧ gZ < gV) := ⟨by have := HB.out.size; have := ORD.out; have := XT.out.lt; have := XX.out.lt; have := XY.out.lt; have := XZ.out.lt; omega⟩; replace HB : Sl (Below w.heap.size w w14) := ⟨below_mv HB.out zm (by have := HB.out.size; have := ORD.out; omega) HB.out.size⟩; replace XT : Sl (Blk w14 gT 26 t.cells) := ⟨XT.out.mv zm (by have := XT.out.lt; have := ORD.out; omega)⟩; replace XX : Sl (Blk w14 gX 34 r1.cells) := ⟨XX.out.mv zm (by have := XX.out.lt; have := ORD.out; omega)⟩; replace XY : Sl (Blk w14 gY 34 r2.cells) := ⟨XY.out.mv zm (by have := XY.out.lt; have := ORD.out; omega)⟩; replace XZ : Sl (Blk w14 gZ 34 r3.cells) := ⟨XZ.out.mv zm (by have := XZ.out.lt; have := ORD.out; omega)⟩; have XV : Sl (Blk w14 gV 34 RVzero.cells) := ⟨zb⟩; clear zg zm zs zb)
      | (refine wpList_store_whole rfl 34 (.tmp 14) (.tmp 64) rfl gV r4.cells rfl rfl 34 RVzero.cells XV.out rfl size_ratio (RV.cells_one _) ?_; rintro w15 zm zs zb; replace HB : Sl (Below w.heap.size w w15) := ⟨below_mv HB.out zm (by have := HB.out.size; have := ORD.out; omega) HB.out.size⟩; replace XT : Sl (Blk w15 gT 26 t.cells) := ⟨XT.out.mv zm (by have := XT.out.lt; have := ORD.out; omega)⟩; replace XX : Sl (Blk w15 gX 34 r1.cells) := ⟨XX.out.mv zm (by have := XX.out.lt; have := ORD.out; omega)⟩; replace XY : Sl (Blk w15 gY 34 r2.cells) := ⟨XY.out.mv zm (by have := XY.out.lt; have := ORD.out; omega)⟩; replace XZ : Sl (Blk w15 gZ 34 r3.cells) := ⟨XZ.out.mv zm (by have := XZ.out.lt; have := ORD.out; omega)⟩; replace XV : Sl (Blk w15 gV 34 r4.cells) := ⟨zb⟩; clear zm zs zb)
      | (refine wpList_load_whole rfl 34 (.tmp 8) rfl gX rfl 34 r1.cells _ XX.out Tryd.underlying34 rfl size_ratio ?_)
      | (refine wpList_load_whole rfl 34 (.tmp 10) rfl gY rfl 34 r2.cells _ XY.out Tryd.underlying34 rfl size_ratio ?_))
    refine (HM1.out _).mono ?_; rintro e w16 ⟨rfl, hb⟩
    replace HB : Sl (Below w.heap.size w w16) := ⟨HB.out.trans (hb.mono HB.out.size)⟩
    replace XT : Sl (Blk w16 gT 26 t.cells) := ⟨XT.out.below hb XT.out.lt⟩
    replace XX : Sl (Blk w16 gX 34 r1.cells) := ⟨XX.out.below hb XX.out.lt⟩
    replace XY : Sl (Blk w16 gY 34 r2.cells) := ⟨XY.out.below hb XY.out.lt⟩
    replace XZ : Sl (Blk w16 gZ 34 r3.cells) := ⟨XZ.out.below hb XZ.out.lt⟩
    replace XV : Sl (Blk w16 gV 34 r4.cells) := ⟨XV.out.below hb XV.out.lt⟩
    clear hb
    go_wp2_with ((with_reducible show wpList _ _ _ _ _ _); first
      | (refine wpList_alloc_new 16 rfl rfl 34 rfl RVzero.cells alloc_ratio ?_; rintro w17 gS zg zm zs zb; replace ORD : Sl (w.heap.size ≤ gT ∧ gT < gX ∧ gX < gY ∧ gY < gZ ∧ gZ < gV ∧ gV < gS) := ⟨by have := HB.out.size; have := ORD.out; have := XT.out.lt; have := XX.out.lt; have := XY.out.lt; have := XZ.out.lt; have := XV.out.lt; omega⟩; replace HB : Sl (Below w.heap.size w w17) := ⟨below_mv HB.out zm (by have := HB.out.size; have := ORD.out; omega) HB.out.size⟩; replace XT : Sl (Blk w17 gT 26 t.cells) := ⟨XT.out.mv zm (by have := XT.out.lt; have := ORD.out; omega)⟩; replace XX : Sl (Blk w17 gX 34 r1.cells) := ⟨XX.out.mv zm (by have := XX.out.lt; have := ORD.out; omega)⟩; replace XY : Sl (Blk w17 gY 34 r2.cells) := ⟨XY.out.mv zm (by have := XY.out.lt; have := ORD.out; omega)⟩; replace XZ : Sl (Blk w17 gZ 34 r3.cells) := ⟨XZ.out.mv zm (by have := XZ.out.lt; have := ORD.out; omega)⟩; replace XV : Sl (Blk w17 gV 34 r4.cells) := ⟨XV.out.mv zm (by have := XV.out.lt; have := ORD.out; omega)⟩; have XS : Sl (Blk w17 gS 34 RVzero.cells) := ⟨zb⟩; clear zg zm zs zb)
      | (refine wpList_store_whole rfl 34 (.tmp 16) (.tmp 70) rfl gS rs.cells rfl rfl 34 RVzero.cells XS.out rfl size_ratio (RV.cells_one _) ?_; rintro w18 zm zs zb; replace HB : Sl (Below w.heap.size w w18) := ⟨below_mv HB.out zm (by have := HB.out.size; have := ORD.out; omega) HB.out.size⟩; replace XT : Sl (Blk w18 gT 26 t.cells) := ⟨XT.out.mv zm (by have := XT.out.lt; have := ORD.out; omega)⟩; replace XX : Sl (Blk w18 gX 34 r1.cells) := ⟨XX.out.mv zm (by have := XX.out.lt; have := ORD.out; omega)⟩; replace XY : Sl (Blk w18 gY 34 r2.cells) := ⟨XY.out.mv zm (by have := XY.out.lt; have := ORD.out; omega)⟩; replace XZ : Sl (Blk w18 gZ 34 r3.cells) := ⟨XZ.out.mv zm (by have := XZ.out.lt; have := ORD.out; omega)⟩; replace XV : Sl (Blk w18 gV 34 r4.cells) := ⟨XV.out.mv zm (by have := XV.out.lt; have := ORD.out; omega)⟩; replace XS : Sl (Blk w18 gS 34 rs.cells) := ⟨zb⟩; clear zm zs zb)
      | (refine wpList_load_whole rfl 34 (.tmp 8) rfl gX rfl 34 r1.cells _ XX.out Tryd.underlying34 rfl size_ratio ?_)
      | (refine wpList_load_whole rfl 34 (.tmp 14) rfl gV rfl 34 r4.cells _ XV.out Tryd.underlying34 rfl size_ratio ?_))
    refine (HM2.out _).mono ?_; rintro e w19 ⟨rfl, hb⟩
    replace HB : Sl (Below w.heap.size w w19) := ⟨HB.out.trans (hb.mono HB.out.size)⟩
    replace XT : Sl (Blk w19 gT 26 t.cells) := ⟨XT.out.below hb XT.out.lt⟩
    replace XX : Sl (Blk w19 gX 34 r1.cells) := ⟨XX.out.below hb XX.out.lt⟩
    replace XY : Sl (Blk w19 gY 34 r2.cells) := ⟨XY.out.below hb XY.out.lt⟩
    replace XZ : Sl (Blk w19 gZ 34 r3.cells) := ⟨XZ.out.below hb XZ.out.lt⟩
    replace XV : Sl (Blk w19 gV 34 r4.cells) := ⟨XV.out.below hb XV.out.lt⟩
    replace XS : Sl (Blk w19 gS 34 rs.cells) := ⟨XS.out.below hb XS.out.lt⟩
    clear hb
    go_wp2_with ((with_reducible show wpList _ _ _ _ _ _); first
      | (refine wpList_alloc_new 18 rfl rfl 34 rfl RVzero.cells alloc_ratio ?_; rintro w20 gO zg zm zs zb; replace ORD : Sl (w.heap.size ≤ gT ∧ gT < gX ∧ gX < gY ∧ gY < gZ ∧ gZ < gV ∧ gV < gS ∧ gS < gO) := ⟨by have := HB.out.size; have := ORD.out; have := XT.out.lt; have := XX.out.lt; have := XY.out.lt; have := XZ.out.lt; have := XV.out.lt; have := XS.out.lt; omega⟩; replace HB : Sl (Below w.heap.size w w20) := ⟨below_mv HB.out zm (by have := HB.out.size; have := ORD.out; omega) HB.out.size⟩; replace XT : Sl (Blk w20 gT 26 t.cells) := ⟨XT.out.mv zm (by have := XT.out.lt; have := ORD.out; omega)⟩; replace XX : Sl (Blk w20 gX 34 r1.cells) := ⟨XX.out.mv zm (by have := XX.out.lt; have := ORD.out; omega)⟩; replace XY : Sl (Blk w20 gY 34 r2.cells) := ⟨XY.out.mv zm (by have := XY.out.lt; have := ORD.out; omega)⟩; replace XZ : Sl (Blk w20 gZ 34 r3.cells) := ⟨XZ.out.mv zm (by have := XZ.out.lt; have := ORD.out; omega)⟩; replace XV : Sl (Blk w20 gV 34 r4.cells) := ⟨XV.out.mv zm (by have := XV.out.lt; have := ORD.out; omega)⟩; replace XS : Sl (Blk w20 gS 34 rs.cells) := ⟨XS.out.mv zm (by have := XS.out.lt; have := ORD.out; omega)⟩; have XO : Sl (Blk w20 gO 34 RVzero.cells) := ⟨zb⟩; clear zg zm zs zb)
      | (refine wpList_store_whole rfl 34 (.tmp 18) (.tmp 76) rfl gO ro.cells rfl rfl 34 RVzero.cells XO.out rfl size_ratio (RV.cells_one _) ?_; rintro w21 zm zs zb; replace HB : Sl (Below w.heap.size w w21) := ⟨below_mv HB.out zm (by have := HB.out.size; have := ORD.out; omega) HB.out.size⟩; replace XT : Sl (Blk w21 gT 26 t.cells) := ⟨XT.out.mv zm (by have := XT.out.lt; have := ORD.out; omega)⟩; replace XX : Sl (Blk w21 gX 34 r1.cells) := ⟨XX.out.mv zm (by have := XX.out.lt; have := ORD.out; omega)⟩; replace XY : Sl (Blk w21 gY 34 r2.cells) := ⟨XY.out.mv zm (by have := XY.out.lt; have := ORD.out; omega)⟩; replace XZ : Sl (Blk w21 gZ 34 r3.cells) := ⟨XZ.out.mv zm (by have := XZ.out.lt; have := ORD.out; omega)⟩; replace XV : Sl (Blk w21 gV 34 r4.cells) := ⟨XV.out.mv zm (by have := XV.out.lt; have := ORD.out; omega)⟩; replace XS : Sl (Blk w21 gS 34 rs.cells) := ⟨XS.out.mv zm (by have := XS.out.lt; have := ORD.out; omega)⟩; replace XO : Sl (Blk w21 gO 34 ro.cells) := ⟨zb⟩; clear zm zs zb))
    refine' wp_branch (fun g w' => Below w21.heap.size w21 w' ∧ w21.heap.size ≤ g ∧ Blk w' g 34 ru.cells) ?hreg ?hrest
    case hreg =>
      have hm : Below w21.heap.size w21 w21.drew := below_drewN (Below.refl _ _) 1
      have HSW : Sl _ := ⟨hm⟩
      refine wp_region_held_drew (S := fun w' => Below w21.heap.size w21 w') (by kernel_rfl) hm (fun hHeld => ?_)
      clear hm
      refine wpAnyH_load 0 34 (.tmp 12) rfl rfl rfl gZ (0) rfl r3.cells _ (fun w' h => by
        have e := XZ.out.below h XZ.out.lt
        exact e.all) Tryd.underlying34 rfl size_ratio (by kernel_rfl) (by kernel_rfl) (by kernel_rfl) (fun _ _ _ h => h) (by assumption) ?_
      simp only [Act.put, List.setIfInBounds_toArray, List.set_cons_zero, List.set_cons_succ]
      refine wpAnyH_two 1 6 rfl rfl (by kernel_rfl) rfl rfl (fun K hK => ?_) (fun K hK => ?_)
      · skip
        go_simp
        go_at_call 12
        (with_reducible refine (HC2.out _).mono ?_)
        rintro e z22 ⟨rfl, hb⟩
        replace HSW : Sl (RowKit.Below w21.heap.size w21 z22) := ⟨HSW.out.trans (hb.mono HSW.out.size)⟩
        refine hK.out _ _ HSW.out (fun hHeld => ?_)
        clear hK K hb
        (try simp only [Act.put, List.setIfInBounds_toArray, List.set_cons_zero, List.set_cons_succ])
        refine wpAnyH_two 2 6 rfl rfl (by kernel_rfl) rfl rfl (fun K hK => ?_) (fun K hK => ?_)
        · skip
          go_simp
          go_at_call 11
          (with_reducible refine (HM3.out _).mono ?_)
          rintro e z23 ⟨rfl, hb⟩
          replace HSW : Sl (RowKit.Below w21.heap.size w21 z23) := ⟨HSW.out.trans (hb.mono HSW.out.size)⟩
          refine hK.out _ _ HSW.out (fun hHeld => ?_)
          clear hK K hb
          (try simp only [Act.put, List.setIfInBounds_toArray, List.set_cons_zero, List.set_cons_succ])
          refine wpAnyH_pure 3 (v := .tuple #[.agg ru.cells, .int .i64 0]) rfl (by kernel_rfl) (by kernel_rfl) (by kernel_rfl) (fun _ _ _ h => h) rfl (fun _ => rfl) (by assumption) ?_
          simp only [Act.put, List.setIfInBounds_toArray, List.set_cons_zero, List.set_cons_succ]
          refine wpAnyH_pure 4 (v := .agg ru.cells) rfl (by kernel_rfl) (by kernel_rfl) (by kernel_rfl) (fun _ _ _ h => h) rfl (fun _ => by go_simp) (by assumption) ?_
          simp only [Act.put, List.setIfInBounds_toArray, List.set_cons_zero, List.set_cons_succ]
          refine wpAnyH_pure 5 (v := .int .i64 0) rfl (by kernel_rfl) (by kernel_rfl) (by kernel_rfl) (fun _ _ _ h => h) rfl (fun _ => by go_simp) (by assumption) ?_
          simp only [Act.put, List.setIfInBounds_toArray, List.set_cons_zero, List.set_cons_succ]
          refine wpAnyH_one 6 rfl (by kernel_rfl) rfl (fun K hK => ?_)
          refine wp_alloc_new 34 rfl RVzero.cells alloc_ratio ?_
          rintro z24 gn zg zm zs zb
          have GE : Sl (w21.heap.size ≤ gn) := ⟨by have := HSW.out.size; omega⟩
          have NB : Sl (Blk z24 gn 34 RVzero.cells) := ⟨zb⟩
          replace HSW : Sl (RowKit.Below w21.heap.size w21 z24) := ⟨HSW.out.trans (zm.mono HSW.out.size)⟩
          refine hK.out _ _ HSW.out (fun hHeld => ?_)
          clear hK K zg zm zs zb
          simp only [Act.put, List.setIfInBounds_toArray, List.set_cons_zero, List.set_cons_succ]
          refine wpAnyH_one 7 rfl (by kernel_rfl) rfl (fun K hK => ?_)
          refine wp_store_part 34 (.tmp 20) (.tmp 82) rfl gn 0 ru.cells rfl rfl 34 RVzero.cells ru.cells NB.out (by rw [RV.cells_size, RV.cells_size]; omega) (putA_all _ _ rfl) size_ratio (RV.cells_one _) ?_
          rintro z25 zm zs zb
          have hbn : Below w21.heap.size w21 z25 := below_mv HSW.out zm GE.out HSW.out.size
          replace HSW : Sl (Below w21.heap.size w21 z25) := ⟨hbn⟩
          refine hK.out _ _ hbn (fun hHeld => ?_)
          clear hK K hbn zm zs
          simp only [Act.put, List.setIfInBounds_toArray, List.set_cons_zero, List.set_cons_succ]
          refine wpAnyH_one 8 rfl (by kernel_rfl) rfl (fun K hK => ?_)
          go_simp
          refine hK.out _ _ HSW.out (fun hHeld => ?_)
          clear hK K
          (try simp only [Act.put, List.setIfInBounds_toArray, List.set_cons_zero, List.set_cons_succ])
          exact wpAnyH_done (by kernel_rfl) ⟨gn, rfl, HSW.out, GE.out, zb⟩ _
        · skip
          refine wp_alloc_new 34 rfl RVzero.cells alloc_ratio ?_
          rintro z26 gn zg zm zs zb
          have GE : Sl (w21.heap.size ≤ gn) := ⟨by have := HSW.out.size; omega⟩
          have NB : Sl (Blk z26 gn 34 RVzero.cells) := ⟨zb⟩
          replace HSW : Sl (RowKit.Below w21.heap.size w21 z26) := ⟨HSW.out.trans (zm.mono HSW.out.size)⟩
          refine hK.out _ _ HSW.out (fun hHeld => ?_)
          clear hK K zg zm zs zb
          simp only [Act.put, List.setIfInBounds_toArray, List.set_cons_zero, List.set_cons_succ]
          refine wpAnyH_one 2 rfl (by kernel_rfl) rfl (fun K hK => ?_)
          go_simp
          go_at_call 11
          (with_reducible refine (HM3.out _).mono ?_)
          rintro e z27 ⟨rfl, hb⟩
          replace HSW : Sl (RowKit.Below w21.heap.size w21 z27) := ⟨HSW.out.trans (hb.mono HSW.out.size)⟩
          replace NB : Sl (Blk z27 gn 34 RVzero.cells) := ⟨NB.out.below hb NB.out.lt⟩
          refine hK.out _ _ HSW.out (fun hHeld => ?_)
          clear hK K hb
          (try simp only [Act.put, List.setIfInBounds_toArray, List.set_cons_zero, List.set_cons_succ])
          refine wpAnyH_pure 3 (v := .tuple #[.agg ru.cells, .int .i64 0]) rfl (by kernel_rfl) (by kernel_rfl) (by kernel_rfl) (fun _ _ _ h => h) rfl (fun _ => rfl) (by assumption) ?_
          simp only [Act.put, List.setIfInBounds_toArray, List.set_cons_zero, List.set_cons_succ]
          refine wpAnyH_pure 4 (v := .agg ru.cells) rfl (by kernel_rfl) (by kernel_rfl) (by kernel_rfl) (fun _ _ _ h => h) rfl (fun _ => by go_simp) (by assumption) ?_
          simp only [Act.put, List.setIfInBounds_toArray, List.set_cons_zero, List.set_cons_succ]
          refine wpAnyH_pure 5 (v := .int .i64 0) rfl (by kernel_rfl) (by kernel_rfl) (by kernel_rfl) (fun _ _ _ h => h) rfl (fun _ => by go_simp) (by assumption) ?_
          simp only [Act.put, List.setIfInBounds_toArray, List.set_cons_zero, List.set_cons_succ]
          refine wpAnyH_one 7 rfl (by kernel_rfl) rfl (fun K hK => ?_)
          refine wp_store_part 34 (.tmp 20) (.tmp 82) rfl gn 0 ru.cells rfl rfl 34 RVzero.cells ru.cells NB.out (by rw [RV.cells_size, RV.cells_size]; omega) (putA_all _ _ rfl) size_ratio (RV.cells_one _) ?_
          rintro z28 zm zs zb
          have hbn : Below w21.heap.size w21 z28 := below_mv HSW.out zm GE.out HSW.out.size
          replace HSW : Sl (Below w21.heap.size w21 z28) := ⟨hbn⟩
          refine hK.out _ _ hbn (fun hHeld => ?_)
          clear hK K hbn zm zs
          simp only [Act.put, List.setIfInBounds_toArray, List.set_cons_zero, List.set_cons_succ]
          refine wpAnyH_one 8 rfl (by kernel_rfl) rfl (fun K hK => ?_)
          go_simp
          refine hK.out _ _ HSW.out (fun hHeld => ?_)
          clear hK K
          (try simp only [Act.put, List.setIfInBounds_toArray, List.set_cons_zero, List.set_cons_succ])
          exact wpAnyH_done (by kernel_rfl) ⟨gn, rfl, HSW.out, GE.out, zb⟩ _
      · skip
        refine wp_alloc_new 34 rfl RVzero.cells alloc_ratio ?_
        rintro z29 gn zg zm zs zb
        have GE : Sl (w21.heap.size ≤ gn) := ⟨by have := HSW.out.size; omega⟩
        have NB : Sl (Blk z29 gn 34 RVzero.cells) := ⟨zb⟩
        replace HSW : Sl (RowKit.Below w21.heap.size w21 z29) := ⟨HSW.out.trans (zm.mono HSW.out.size)⟩
        refine hK.out _ _ HSW.out (fun hHeld => ?_)
        clear hK K zg zm zs zb
        simp only [Act.put, List.setIfInBounds_toArray, List.set_cons_zero, List.set_cons_succ]
        refine wpAnyH_one 1 rfl (by kernel_rfl) rfl (fun K hK => ?_)
        go_simp
        go_at_call 12
        (with_reducible refine (HC2.out _).mono ?_)
        rintro e z30 ⟨rfl, hb⟩
        replace HSW : Sl (RowKit.Below w21.heap.size w21 z30) := ⟨HSW.out.trans (hb.mono HSW.out.size)⟩
        replace NB : Sl (Blk z30 gn 34 RVzero.cells) := ⟨NB.out.below hb NB.out.lt⟩
        refine hK.out _ _ HSW.out (fun hHeld => ?_)
        clear hK K hb
        (try simp only [Act.put, List.setIfInBounds_toArray, List.set_cons_zero, List.set_cons_succ])
        refine wpAnyH_one 2 rfl (by kernel_rfl) rfl (fun K hK => ?_)
        go_simp
        go_at_call 11
        (with_reducible refine (HM3.out _).mono ?_)
        rintro e z31 ⟨rfl, hb⟩
        replace HSW : Sl (RowKit.Below w21.heap.size w21 z31) := ⟨HSW.out.trans (hb.mono HSW.out.size)⟩
        replace NB : Sl (Blk z31 gn 34 RVzero.cells) := ⟨NB.out.below hb NB.out.lt⟩
        refine hK.out _ _ HSW.out (fun hHeld => ?_)
        clear hK K hb
        (try simp only [Act.put, List.setIfInBounds_toArray, List.set_cons_zero, List.set_cons_succ])
        refine wpAnyH_pure 3 (v := .tuple #[.agg ru.cells, .int .i64 0]) rfl (by kernel_rfl) (by kernel_rfl) (by kernel_rfl) (fun _ _ _ h => h) rfl (fun _ => rfl) (by assumption) ?_
        simp only [Act.put, List.setIfInBounds_toArray, List.set_cons_zero, List.set_cons_succ]
        refine wpAnyH_pure 4 (v := .agg ru.cells) rfl (by kernel_rfl) (by kernel_rfl) (by kernel_rfl) (fun _ _ _ h => h) rfl (fun _ => by go_simp) (by assumption) ?_
        simp only [Act.put, List.setIfInBounds_toArray, List.set_cons_zero, List.set_cons_succ]
        refine wpAnyH_pure 5 (v := .int .i64 0) rfl (by kernel_rfl) (by kernel_rfl) (by kernel_rfl) (fun _ _ _ h => h) rfl (fun _ => by go_simp) (by assumption) ?_
        simp only [Act.put, List.setIfInBounds_toArray, List.set_cons_zero, List.set_cons_succ]
        refine wpAnyH_one 7 rfl (by kernel_rfl) rfl (fun K hK => ?_)
        refine wp_store_part 34 (.tmp 20) (.tmp 82) rfl gn 0 ru.cells rfl rfl 34 RVzero.cells ru.cells NB.out (by rw [RV.cells_size, RV.cells_size]; omega) (putA_all _ _ rfl) size_ratio (RV.cells_one _) ?_
        rintro z32 zm zs zb
        have hbn : Below w21.heap.size w21 z32 := below_mv HSW.out zm GE.out HSW.out.size
        replace HSW : Sl (Below w21.heap.size w21 z32) := ⟨hbn⟩
        refine hK.out _ _ hbn (fun hHeld => ?_)
        clear hK K hbn zm zs
        simp only [Act.put, List.setIfInBounds_toArray, List.set_cons_zero, List.set_cons_succ]
        refine wpAnyH_one 8 rfl (by kernel_rfl) rfl (fun K hK => ?_)
        go_simp
        refine hK.out _ _ HSW.out (fun hHeld => ?_)
        clear hK K
        (try simp only [Act.put, List.setIfInBounds_toArray, List.set_cons_zero, List.set_cons_succ])
        exact wpAnyH_done (by kernel_rfl) ⟨gn, rfl, HSW.out, GE.out, zb⟩ _
    case hrest =>
      rintro gU w33 ⟨hb, hge, zb⟩
      replace ORD : Sl (w.heap.size ≤ gT ∧ gT < gX ∧ gX < gY ∧ gY < gZ ∧ gZ < gV ∧ gV < gS ∧ gS < gO ∧ gO < gU) := ⟨by have := HB.out.size; have := ORD.out; have := XT.out.lt; have := XX.out.lt; have := XY.out.lt; have := XZ.out.lt; have := XV.out.lt; have := XS.out.lt; have := XO.out.lt; omega⟩
      replace HB : Sl (Below w.heap.size w w33) := ⟨HB.out.trans (hb.mono HB.out.size)⟩
      replace XT : Sl (Blk w33 gT 26 t.cells) := ⟨XT.out.below hb XT.out.lt⟩
      replace XX : Sl (Blk w33 gX 34 r1.cells) := ⟨XX.out.below hb XX.out.lt⟩
      replace XY : Sl (Blk w33 gY 34 r2.cells) := ⟨XY.out.below hb XY.out.lt⟩
      replace XZ : Sl (Blk w33 gZ 34 r3.cells) := ⟨XZ.out.below hb XZ.out.lt⟩
      replace XV : Sl (Blk w33 gV 34 r4.cells) := ⟨XV.out.below hb XV.out.lt⟩
      replace XS : Sl (Blk w33 gS 34 rs.cells) := ⟨XS.out.below hb XS.out.lt⟩
      replace XO : Sl (Blk w33 gO 34 ro.cells) := ⟨XO.out.below hb XO.out.lt⟩
      have XU : Sl (Blk w33 gU 34 ru.cells) := ⟨zb⟩
      clear hb hge zb
      go_wp2_with fail
      obtain ⟨β, hβ, hβe⟩ := eqR rs r3
      obtain ⟨γ, hγ⟩ : ∃ g : Bool, (β && (rs.d == r3.d)) = g := ⟨_, rfl⟩
      have HGF : Sl (γ = false → rs = ru) := ⟨fun h => by
        rcases HOR.out with e | e
        · rw [← hγ, hβe e, e] at h
          simp at h
        · exact e⟩
      have HGV : Sl _ := ⟨And.intro hβ hγ⟩
      clear hβ hβe hγ
      by_cases hxy : x = y
      · have hxe : ((x : Int) == (y : Int)) = true := by rw [beq_iff_eq]; omega
        obtain rfl := HON.out hxy
        clear hxy
        have hd7 := r1.d_cell
        have he7 := r1.ext06
        have hen7 := fun W => eq_nums W r1
        cases γ
        · have hd6 := rs.d_cell
          have he6 := rs.ext06
          have hen := fun W => eq_nums W rs
          have hm : Mv w33.heap.size w33 w33.drew := Mv.drew _ _
          have hs : RowKit.Below w33.heap.size w33 w33.drew := below_drewN (Below.refl _ _) 1
          have HSW : Sl _ := ⟨hs⟩
          clear hs
          refine wp_region_held_drew (S := fun w' => Mv w33.heap.size w33 w') (by kernel_rfl) hm (fun hHeld => ?_)
          clear hm
          refine wpAnyH_load 0 34 (.tmp 16) rfl rfl rfl gS (0) rfl rs.cells _ (fun w' h => by
            have e := XS.out.mv h (by have := XS.out.lt; (try have := ORD.out); omega)
            exact e.all) Tryd.underlying34 rfl size_ratio (by kernel_rfl) (by kernel_rfl) (by kernel_rfl) (fun _ _ _ h => h) (by assumption) ?_
          simp only [Act.put, List.setIfInBounds_toArray, List.set_cons_zero, List.set_cons_succ]
          refine wpAnyH_load 1 34 (.tmp 12) rfl rfl rfl gZ (0) rfl r3.cells _ (fun w' h => by
            have e := XZ.out.mv h (by have := XZ.out.lt; (try have := ORD.out); omega)
            exact e.all) Tryd.underlying34 rfl size_ratio (by kernel_rfl) (by kernel_rfl) (by kernel_rfl) (fun _ _ _ h => h) (by assumption) ?_
          simp only [Act.put, List.setIfInBounds_toArray, List.set_cons_zero, List.set_cons_succ]
          refine wpAnyH_pure 2 (v := .bool false) rfl (by kernel_rfl) (by kernel_rfl) (by kernel_rfl) (fun _ _ _ h => h) rfl (fun _ => by
            obtain ⟨hβ, hγ⟩ := HGV.out
            have e1 := rs.d_cell
            have e2 := rs.ext06
            have e3 := r3.d_cell
            have e4 := r3.ext06
            cases β
            · clear hγ
              go_simp
            · have hdd : (rs.d = r3.d) = False := by simpa using hγ
              clear hγ
              go_simp) (by assumption) ?_
          simp only [Act.put, List.setIfInBounds_toArray, List.set_cons_zero, List.set_cons_succ]
          refine wpAnyH_pure 3 (v := .bool false) rfl (by kernel_rfl) (by kernel_rfl) (by kernel_rfl) (fun _ _ _ h => h) rfl (fun _ => rfl) (by assumption) ?_
          simp only [Act.put, List.setIfInBounds_toArray, List.set_cons_zero, List.set_cons_succ]
          refine wpAnyH_loadg 4 34 (.tmp 16) rfl rfl (by rfl) gS (0) rfl rs.cells _ (fun w' h => by
            have e := XS.out.mv h (by have := XS.out.lt; (try have := ORD.out); omega)
            exact e.all) Tryd.underlying34 rfl size_ratio (by kernel_rfl) (by kernel_rfl) (by kernel_rfl) (fun _ _ _ h => h) (by assumption) ?_
          simp only [Act.put, List.setIfInBounds_toArray, List.set_cons_zero, List.set_cons_succ]
          refine wpAnyH_loadg 5 34 (.tmp 20) rfl rfl (by rfl) gU (0) rfl rs.cells _ (fun w' h => by
            have e := XU.out.mv h (by have := XU.out.lt; (try have := ORD.out); omega)
            rw [← HGF.out rfl] at e
            exact e.all) Tryd.underlying34 rfl size_ratio (by kernel_rfl) (by kernel_rfl) (by kernel_rfl) (fun _ _ _ h => h) (by assumption) ?_
          simp only [Act.put, List.setIfInBounds_toArray, List.set_cons_zero, List.set_cons_succ]
          refine wpAnyH_pureg 6 (v := .bool true) rfl (by kernel_rfl) (by kernel_rfl) (by kernel_rfl) (fun _ _ _ h => h) (by rfl) (fun _ => by go_simp) (by assumption) ?_
          simp only [Act.put, List.setIfInBounds_toArray, List.set_cons_zero, List.set_cons_succ]
          refine wpAnyH_pure 7 (v := .bool true) rfl (by kernel_rfl) (by kernel_rfl) (by kernel_rfl) (fun _ _ _ h => h) rfl (fun _ => by go_simp) (by assumption) ?_
          simp only [Act.put, List.setIfInBounds_toArray, List.set_cons_zero, List.set_cons_succ]
          refine wpAnyH_pure 8 (v := .bool true) rfl (by kernel_rfl) (by kernel_rfl) (by kernel_rfl) (fun _ _ _ h => h) rfl (fun _ => rfl) (by assumption) ?_
          simp only [Act.put, List.setIfInBounds_toArray, List.set_cons_zero, List.set_cons_succ]
          refine wpAnyH_pureg 9 (v := .int .i64 (x : Int)) rfl (by kernel_rfl) (by kernel_rfl) (by kernel_rfl) (fun _ _ _ h => h) (by rfl) (fun _ => rfl) (by assumption) ?_
          simp only [Act.put, List.setIfInBounds_toArray, List.set_cons_zero, List.set_cons_succ]
          refine wpAnyH_pureg 10 (v := .int .i64 (y : Int)) rfl (by kernel_rfl) (by kernel_rfl) (by kernel_rfl) (fun _ _ _ h => h) (by rfl) (fun _ => rfl) (by assumption) ?_
          simp only [Act.put, List.setIfInBounds_toArray, List.set_cons_zero, List.set_cons_succ]
          refine wpAnyH_pureg 11 (v := .bool true) rfl (by kernel_rfl) (by kernel_rfl) (by kernel_rfl) (fun _ _ _ h => h) (by rfl) (fun _ => by go_simp) (by assumption) ?_
          simp only [Act.put, List.setIfInBounds_toArray, List.set_cons_zero, List.set_cons_succ]
          refine wpAnyH_pureg 12 (v := .bool true) rfl (by kernel_rfl) (by kernel_rfl) (by kernel_rfl) (fun _ _ _ h => h) (by rfl) (fun _ => rfl) (by assumption) ?_
          simp only [Act.put, List.setIfInBounds_toArray, List.set_cons_zero, List.set_cons_succ]
          refine wpAnyH_loadg 13 34 (.tmp 8) rfl rfl (by rfl) gX (0) rfl r1.cells _ (fun w' h => by
            have e := XX.out.mv h (by have := XX.out.lt; (try have := ORD.out); omega)
            exact e.all) Tryd.underlying34 rfl size_ratio (by kernel_rfl) (by kernel_rfl) (by kernel_rfl) (fun _ _ _ h => h) (by assumption) ?_
          simp only [Act.put, List.setIfInBounds_toArray, List.set_cons_zero, List.set_cons_succ]
          refine wpAnyH_onew 14 rfl (by kernel_rfl) (by rfl) (fun K hK => ?_)
          go_simp
          go_at_call 12
          (with_reducible refine (HC1.out _).mono ?_)
          rintro e z34 ⟨rfl, hb⟩
          replace HSW : Sl (RowKit.Below w33.heap.size w33 z34) := ⟨HSW.out.trans (hb.mono HSW.out.size)⟩
          refine hK.out _ _ (Mv.below HSW.out) (fun hHeld => ?_)
          clear hK K hb
          (try simp only [Act.put, List.setIfInBounds_toArray, List.set_cons_zero, List.set_cons_succ])
          refine wpAnyH_pureg 15 (v := .bool true) rfl (by kernel_rfl) (by kernel_rfl) (by kernel_rfl) (fun _ _ _ h => h) (by rfl) (fun _ => by go_simp) (by assumption) ?_
          simp only [Act.put, List.setIfInBounds_toArray, List.set_cons_zero, List.set_cons_succ]
          refine wpAnyH_pureg 16 (v := .bool true) rfl (by kernel_rfl) (by kernel_rfl) (by kernel_rfl) (fun _ _ _ h => h) (by rfl) (fun _ => by go_simp) (by assumption) ?_
          simp only [Act.put, List.setIfInBounds_toArray, List.set_cons_zero, List.set_cons_succ]
          refine wpAnyH_pureg 17 (v := .bool true) rfl (by kernel_rfl) (by kernel_rfl) (by kernel_rfl) (fun _ _ _ h => h) (by rfl) (fun _ => rfl) (by assumption) ?_
          simp only [Act.put, List.setIfInBounds_toArray, List.set_cons_zero, List.set_cons_succ]
          refine wpAnyH_no 18 rfl (by kernel_rfl) (by kernel_rfl) (by kernel_rfl) (fun _ _ _ h => h) (by rfl) (by assumption) ?_
          simp only [Act.put, List.setIfInBounds_toArray, List.set_cons_zero, List.set_cons_succ]
          refine wpAnyH_no 19 rfl (by kernel_rfl) (by kernel_rfl) (by kernel_rfl) (fun _ _ _ h => h) (by rfl) (by assumption) ?_
          simp only [Act.put, List.setIfInBounds_toArray, List.set_cons_zero, List.set_cons_succ]
          refine wpAnyH_no 20 rfl (by kernel_rfl) (by kernel_rfl) (by kernel_rfl) (fun _ _ _ h => h) (by rfl) (by assumption) ?_
          simp only [Act.put, List.setIfInBounds_toArray, List.set_cons_zero, List.set_cons_succ]
          refine wpAnyH_no 21 rfl (by kernel_rfl) (by kernel_rfl) (by kernel_rfl) (fun _ _ _ h => h) (by rfl) (by assumption) ?_
          simp only [Act.put, List.setIfInBounds_toArray, List.set_cons_zero, List.set_cons_succ]
          refine wpAnyH_no 22 rfl (by kernel_rfl) (by kernel_rfl) (by kernel_rfl) (fun _ _ _ h => h) (by rfl) (by assumption) ?_
          simp only [Act.put, List.setIfInBounds_toArray, List.set_cons_zero, List.set_cons_succ]
          refine wpAnyH_no 23 rfl (by kernel_rfl) (by kernel_rfl) (by kernel_rfl) (fun _ _ _ h => h) (by rfl) (by assumption) ?_
          simp only [Act.put, List.setIfInBounds_toArray, List.set_cons_zero, List.set_cons_succ]
          refine wpAnyH_no 24 rfl (by kernel_rfl) (by kernel_rfl) (by kernel_rfl) (fun _ _ _ h => h) (by rfl) (by assumption) ?_
          simp only [Act.put, List.setIfInBounds_toArray, List.set_cons_zero, List.set_cons_succ]
          refine wpAnyH_no 25 rfl (by kernel_rfl) (by kernel_rfl) (by kernel_rfl) (fun _ _ _ h => h) (by rfl) (by assumption) ?_
          simp only [Act.put, List.setIfInBounds_toArray, List.set_cons_zero, List.set_cons_succ]
          refine wpAnyH_pureg 26 (v := .bool true) rfl (by kernel_rfl) (by kernel_rfl) (by kernel_rfl) (fun _ _ _ h => h) (by rfl) (fun _ => by go_simp) (by assumption) ?_
          simp only [Act.put, List.setIfInBounds_toArray, List.set_cons_zero, List.set_cons_succ]
          refine wpAnyH_pure 27 (v := .bool true) rfl (by kernel_rfl) (by kernel_rfl) (by kernel_rfl) (fun _ _ _ h => h) rfl (fun _ => by go_simp) (by assumption) ?_
          simp only [Act.put, List.setIfInBounds_toArray, List.set_cons_zero, List.set_cons_succ]
          refine wpAnyH_pure 28 (v := .bool true) rfl (by kernel_rfl) (by kernel_rfl) (by kernel_rfl) (fun _ _ _ h => h) rfl (fun _ => rfl) (by assumption) ?_
          simp only [Act.put, List.setIfInBounds_toArray, List.set_cons_zero, List.set_cons_succ]
          refine wpAnyH_onew 29 rfl (by kernel_rfl) (by rfl) (fun K hK => ?_)
          go_simp
          go_at_call 9
          (with_reducible refine (HAW.out _ (HT.out.below (HB.out.trans (HSW.out.mono HB.out.size)))).mono ?_)
          rintro e z35 ⟨rfl, hb⟩
          replace HSW : Sl (RowKit.Below w33.heap.size w33 z35) := ⟨HSW.out.trans (hb.mono HSW.out.size)⟩
          refine hK.out _ _ (Mv.below HSW.out) (fun hHeld => ?_)
          clear hK K hb
          (try simp only [Act.put, List.setIfInBounds_toArray, List.set_cons_zero, List.set_cons_succ])
          refine wpAnyH_pure 30 (v := .bool true) rfl (by kernel_rfl) (by kernel_rfl) (by kernel_rfl) (fun _ _ _ h => h) rfl (fun _ => by go_simp) (by assumption) ?_
          simp only [Act.put, List.setIfInBounds_toArray, List.set_cons_zero, List.set_cons_succ]
          refine wpAnyH_pure 31 (v := .bool true) rfl (by kernel_rfl) (by kernel_rfl) (by kernel_rfl) (fun _ _ _ h => h) rfl (fun _ => rfl) (by assumption) ?_
          simp only [Act.put, List.setIfInBounds_toArray, List.set_cons_zero, List.set_cons_succ]
          refine wpAnyH_done (by kernel_rfl) ?_ _
          replace HB : Sl (Below w.heap.size w z35) := ⟨HB.out.trans (HSW.out.mono HB.out.size)⟩
          replace XT : Sl (Blk z35 gT 26 t.cells) := ⟨XT.out.below HSW.out XT.out.lt⟩
          replace XX : Sl (Blk z35 gX 34 r1.cells) := ⟨XX.out.below HSW.out XX.out.lt⟩
          replace XY : Sl (Blk z35 gY 34 r2.cells) := ⟨XY.out.below HSW.out XY.out.lt⟩
          replace XZ : Sl (Blk z35 gZ 34 r3.cells) := ⟨XZ.out.below HSW.out XZ.out.lt⟩
          replace XV : Sl (Blk z35 gV 34 r4.cells) := ⟨XV.out.below HSW.out XV.out.lt⟩
          replace XS : Sl (Blk z35 gS 34 rs.cells) := ⟨XS.out.below HSW.out XS.out.lt⟩
          replace XO : Sl (Blk z35 gO 34 ro.cells) := ⟨XO.out.below HSW.out XO.out.lt⟩
          replace XU : Sl (Blk z35 gU 34 ru.cells) := ⟨XU.out.below HSW.out XU.out.lt⟩
          clear HSW; (try clear hHeld)
          go_wp2_with fail
          go_ret
          exact ⟨rfl, HB.out⟩
        · skip
          have hm : Mv w33.heap.size w33 w33.drew := Mv.drew _ _
          have hs : RowKit.Below w33.heap.size w33 w33.drew := below_drewN (Below.refl _ _) 1
          have HSW : Sl _ := ⟨hs⟩
          clear hs
          refine wp_region_held_drew (S := fun w' => Mv w33.heap.size w33 w') (by kernel_rfl) hm (fun hHeld => ?_)
          clear hm
          refine wpAnyH_load 0 34 (.tmp 16) rfl rfl rfl gS (0) rfl rs.cells _ (fun w' h => by
            have e := XS.out.mv h (by have := XS.out.lt; (try have := ORD.out); omega)
            exact e.all) Tryd.underlying34 rfl size_ratio (by kernel_rfl) (by kernel_rfl) (by kernel_rfl) (fun _ _ _ h => h) (by assumption) ?_
          simp only [Act.put, List.setIfInBounds_toArray, List.set_cons_zero, List.set_cons_succ]
          refine wpAnyH_load 1 34 (.tmp 12) rfl rfl rfl gZ (0) rfl r3.cells _ (fun w' h => by
            have e := XZ.out.mv h (by have := XZ.out.lt; (try have := ORD.out); omega)
            exact e.all) Tryd.underlying34 rfl size_ratio (by kernel_rfl) (by kernel_rfl) (by kernel_rfl) (fun _ _ _ h => h) (by assumption) ?_
          simp only [Act.put, List.setIfInBounds_toArray, List.set_cons_zero, List.set_cons_succ]
          refine wpAnyH_pure 2 (v := .bool true) rfl (by kernel_rfl) (by kernel_rfl) (by kernel_rfl) (fun _ _ _ h => h) rfl (fun _ => by
            obtain ⟨hβ, hγ⟩ := HGV.out
            have e1 := rs.d_cell
            have e2 := rs.ext06
            have e3 := r3.d_cell
            have e4 := r3.ext06
            cases β
            · exact absurd hγ (by simp)
            · have hdd : rs.d = r3.d := by simpa using hγ
              clear hγ
              go_simp) (by assumption) ?_
          simp only [Act.put, List.setIfInBounds_toArray, List.set_cons_zero, List.set_cons_succ]
          refine wpAnyH_pure 3 (v := .bool true) rfl (by kernel_rfl) (by kernel_rfl) (by kernel_rfl) (fun _ _ _ h => h) rfl (fun _ => rfl) (by assumption) ?_
          simp only [Act.put, List.setIfInBounds_toArray, List.set_cons_zero, List.set_cons_succ]
          refine wpAnyH_no 4 rfl (by kernel_rfl) (by kernel_rfl) (by kernel_rfl) (fun _ _ _ h => h) (by rfl) (by assumption) ?_
          simp only [Act.put, List.setIfInBounds_toArray, List.set_cons_zero, List.set_cons_succ]
          refine wpAnyH_no 5 rfl (by kernel_rfl) (by kernel_rfl) (by kernel_rfl) (fun _ _ _ h => h) (by rfl) (by assumption) ?_
          simp only [Act.put, List.setIfInBounds_toArray, List.set_cons_zero, List.set_cons_succ]
          refine wpAnyH_no 6 rfl (by kernel_rfl) (by kernel_rfl) (by kernel_rfl) (fun _ _ _ h => h) (by rfl) (by assumption) ?_
          simp only [Act.put, List.setIfInBounds_toArray, List.set_cons_zero, List.set_cons_succ]
          refine wpAnyH_pure 7 (v := .bool true) rfl (by kernel_rfl) (by kernel_rfl) (by kernel_rfl) (fun _ _ _ h => h) rfl (fun _ => by go_simp) (by assumption) ?_
          simp only [Act.put, List.setIfInBounds_toArray, List.set_cons_zero, List.set_cons_succ]
          refine wpAnyH_pure 8 (v := .bool true) rfl (by kernel_rfl) (by kernel_rfl) (by kernel_rfl) (fun _ _ _ h => h) rfl (fun _ => rfl) (by assumption) ?_
          simp only [Act.put, List.setIfInBounds_toArray, List.set_cons_zero, List.set_cons_succ]
          refine wpAnyH_pureg 9 (v := .int .i64 (x : Int)) rfl (by kernel_rfl) (by kernel_rfl) (by kernel_rfl) (fun _ _ _ h => h) (by rfl) (fun _ => rfl) (by assumption) ?_
          simp only [Act.put, List.setIfInBounds_toArray, List.set_cons_zero, List.set_cons_succ]
          refine wpAnyH_pureg 10 (v := .int .i64 (y : Int)) rfl (by kernel_rfl) (by kernel_rfl) (by kernel_rfl) (fun _ _ _ h => h) (by rfl) (fun _ => rfl) (by assumption) ?_
          simp only [Act.put, List.setIfInBounds_toArray, List.set_cons_zero, List.set_cons_succ]
          refine wpAnyH_pureg 11 (v := .bool true) rfl (by kernel_rfl) (by kernel_rfl) (by kernel_rfl) (fun _ _ _ h => h) (by rfl) (fun _ => by go_simp) (by assumption) ?_
          simp only [Act.put, List.setIfInBounds_toArray, List.set_cons_zero, List.set_cons_succ]
          refine wpAnyH_pureg 12 (v := .bool true) rfl (by kernel_rfl) (by kernel_rfl) (by kernel_rfl) (fun _ _ _ h => h) (by rfl) (fun _ => rfl) (by assumption) ?_
          simp only [Act.put, List.setIfInBounds_toArray, List.set_cons_zero, List.set_cons_succ]
          refine wpAnyH_loadg 13 34 (.tmp 8) rfl rfl (by rfl) gX (0) rfl r1.cells _ (fun w' h => by
            have e := XX.out.mv h (by have := XX.out.lt; (try have := ORD.out); omega)
            exact e.all) Tryd.underlying34 rfl size_ratio (by kernel_rfl) (by kernel_rfl) (by kernel_rfl) (fun _ _ _ h => h) (by assumption) ?_
          simp only [Act.put, List.setIfInBounds_toArray, List.set_cons_zero, List.set_cons_succ]
          refine wpAnyH_onew 14 rfl (by kernel_rfl) (by rfl) (fun K hK => ?_)
          go_simp
          go_at_call 12
          (with_reducible refine (HC1.out _).mono ?_)
          rintro e z87 ⟨rfl, hb⟩
          replace HSW : Sl (RowKit.Below w33.heap.size w33 z87) := ⟨HSW.out.trans (hb.mono HSW.out.size)⟩
          refine hK.out _ _ (Mv.below HSW.out) (fun hHeld => ?_)
          clear hK K hb
          (try simp only [Act.put, List.setIfInBounds_toArray, List.set_cons_zero, List.set_cons_succ])
          refine wpAnyH_pureg 15 (v := .bool true) rfl (by kernel_rfl) (by kernel_rfl) (by kernel_rfl) (fun _ _ _ h => h) (by rfl) (fun _ => by go_simp) (by assumption) ?_
          simp only [Act.put, List.setIfInBounds_toArray, List.set_cons_zero, List.set_cons_succ]
          refine wpAnyH_pureg 16 (v := .bool true) rfl (by kernel_rfl) (by kernel_rfl) (by kernel_rfl) (fun _ _ _ h => h) (by rfl) (fun _ => by go_simp) (by assumption) ?_
          simp only [Act.put, List.setIfInBounds_toArray, List.set_cons_zero, List.set_cons_succ]
          refine wpAnyH_pureg 17 (v := .bool true) rfl (by kernel_rfl) (by kernel_rfl) (by kernel_rfl) (fun _ _ _ h => h) (by rfl) (fun _ => rfl) (by assumption) ?_
          simp only [Act.put, List.setIfInBounds_toArray, List.set_cons_zero, List.set_cons_succ]
          refine wpAnyH_no 18 rfl (by kernel_rfl) (by kernel_rfl) (by kernel_rfl) (fun _ _ _ h => h) (by rfl) (by assumption) ?_
          simp only [Act.put, List.setIfInBounds_toArray, List.set_cons_zero, List.set_cons_succ]
          refine wpAnyH_no 19 rfl (by kernel_rfl) (by kernel_rfl) (by kernel_rfl) (fun _ _ _ h => h) (by rfl) (by assumption) ?_
          simp only [Act.put, List.setIfInBounds_toArray, List.set_cons_zero, List.set_cons_succ]
          refine wpAnyH_no 20 rfl (by kernel_rfl) (by kernel_rfl) (by kernel_rfl) (fun _ _ _ h => h) (by rfl) (by assumption) ?_
          simp only [Act.put, List.setIfInBounds_toArray, List.set_cons_zero, List.set_cons_succ]
          refine wpAnyH_no 21 rfl (by kernel_rfl) (by kernel_rfl) (by kernel_rfl) (fun _ _ _ h => h) (by rfl) (by assumption) ?_
          simp only [Act.put, List.setIfInBounds_toArray, List.set_cons_zero, List.set_cons_succ]
          refine wpAnyH_no 22 rfl (by kernel_rfl) (by kernel_rfl) (by kernel_rfl) (fun _ _ _ h => h) (by rfl) (by assumption) ?_
          simp only [Act.put, List.setIfInBounds_toArray, List.set_cons_zero, List.set_cons_succ]
          refine wpAnyH_no 23 rfl (by kernel_rfl) (by kernel_rfl) (by kernel_rfl) (fun _ _ _ h => h) (by rfl) (by assumption) ?_
          simp only [Act.put, List.setIfInBounds_toArray, List.set_cons_zero, List.set_cons_succ]
          refine wpAnyH_no 24 rfl (by kernel_rfl) (by kernel_rfl) (by kernel_rfl) (fun _ _ _ h => h) (by rfl) (by assumption) ?_
          simp only [Act.put, List.setIfInBounds_toArray, List.set_cons_zero, List.set_cons_succ]
          refine wpAnyH_no 25 rfl (by kernel_rfl) (by kernel_rfl) (by kernel_rfl) (fun _ _ _ h => h) (by rfl) (by assumption) ?_
          simp only [Act.put, List.setIfInBounds_toArray, List.set_cons_zero, List.set_cons_succ]
          refine wpAnyH_pureg 26 (v := .bool true) rfl (by kernel_rfl) (by kernel_rfl) (by kernel_rfl) (fun _ _ _ h => h) (by rfl) (fun _ => by go_simp) (by assumption) ?_
          simp only [Act.put, List.setIfInBounds_toArray, List.set_cons_zero, List.set_cons_succ]
          refine wpAnyH_pure 27 (v := .bool true) rfl (by kernel_rfl) (by kernel_rfl) (by kernel_rfl) (fun _ _ _ h => h) rfl (fun _ => by go_simp) (by assumption) ?_
          simp only [Act.put, List.setIfInBounds_toArray, List.set_cons_zero, List.set_cons_succ]
          refine wpAnyH_pure 28 (v := .bool true) rfl (by kernel_rfl) (by kernel_rfl) (by kernel_rfl) (fun _ _ _ h => h) rfl (fun _ => rfl) (by assumption) ?_
          simp only [Act.put, List.setIfInBounds_toArray, List.set_cons_zero, List.set_cons_succ]
          refine wpAnyH_onew 29 rfl (by kernel_rfl) (by rfl) (fun K hK => ?_)
          go_simp
          go_at_call 9
          (with_reducible refine (HAW.out _ (HT.out.below (HB.out.trans (HSW.out.mono HB.out.size)))).mono ?_)
          rintro e z88 ⟨rfl, hb⟩
          replace HSW : Sl (RowKit.Below w33.heap.size w33 z88) := ⟨HSW.out.trans (hb.mono HSW.out.size)⟩
          refine hK.out _ _ (Mv.below HSW.out) (fun hHeld => ?_)
          clear hK K hb
          (try simp only [Act.put, List.setIfInBounds_toArray, List.set_cons_zero, List.set_cons_succ])
          refine wpAnyH_pure 30 (v := .bool true) rfl (by kernel_rfl) (by kernel_rfl) (by kernel_rfl) (fun _ _ _ h => h) rfl (fun _ => by go_simp) (by assumption) ?_
          simp only [Act.put, List.setIfInBounds_toArray, List.set_cons_zero, List.set_cons_succ]
          refine wpAnyH_pure 31 (v := .bool true) rfl (by kernel_rfl) (by kernel_rfl) (by kernel_rfl) (fun _ _ _ h => h) rfl (fun _ => rfl) (by assumption) ?_
          simp only [Act.put, List.setIfInBounds_toArray, List.set_cons_zero, List.set_cons_succ]
          refine wpAnyH_done (by kernel_rfl) ?_ _
          replace HB : Sl (Below w.heap.size w z88) := ⟨HB.out.trans (HSW.out.mono HB.out.size)⟩
          replace XT : Sl (Blk z88 gT 26 t.cells) := ⟨XT.out.below HSW.out XT.out.lt⟩
          replace XX : Sl (Blk z88 gX 34 r1.cells) := ⟨XX.out.below HSW.out XX.out.lt⟩
          replace XY : Sl (Blk z88 gY 34 r2.cells) := ⟨XY.out.below HSW.out XY.out.lt⟩
          replace XZ : Sl (Blk z88 gZ 34 r3.cells) := ⟨XZ.out.below HSW.out XZ.out.lt⟩
          replace XV : Sl (Blk z88 gV 34 r4.cells) := ⟨XV.out.below HSW.out XV.out.lt⟩
          replace XS : Sl (Blk z88 gS 34 rs.cells) := ⟨XS.out.below HSW.out XS.out.lt⟩
          replace XO : Sl (Blk z88 gO 34 ro.cells) := ⟨XO.out.below HSW.out XO.out.lt⟩
          replace XU : Sl (Blk z88 gU 34 ru.cells) := ⟨XU.out.below HSW.out XU.out.lt⟩
          clear HSW; (try clear hHeld)
          go_wp2_with fail
          go_ret
          exact ⟨rfl, HB.out⟩
      · have hxe : ((x : Int) == (y : Int)) = false := by rw [beq_eq_false_iff_ne]; omega
        have hxn : ((x : Int) != (y : Int)) = true := by rw [bne, hxe]; rfl
        obtain rfl := HOC.out hxy
        clear hxy
        have hd7 := ro.d_cell
        have he7 := ro.ext06
        have hen7 := fun W => eq_nums W ro
        cases γ
        · have hd6 := rs.d_cell
          have he6 := rs.ext06
          have hen := fun W => eq_nums W rs
          have hm : Mv w33.heap.size w33 w33.drew := Mv.drew _ _
          have hs : RowKit.Below w33.heap.size w33 w33.drew := below_drewN (Below.refl _ _) 1
          have HSW : Sl _ := ⟨hs⟩
          clear hs
          refine wp_region_held_drew (S := fun w' => Mv w33.heap.size w33 w') (by kernel_rfl) hm (fun hHeld => ?_)
          clear hm
          refine wpAnyH_load 0 34 (.tmp 16) rfl rfl rfl gS (0) rfl rs.cells _ (fun w' h => by
            have e := XS.out.mv h (by have := XS.out.lt; (try have := ORD.out); omega)
            exact e.all) Tryd.underlying34 rfl size_ratio (by kernel_rfl) (by kernel_rfl) (by kernel_rfl) (fun _ _ _ h => h) (by assumption) ?_
          simp only [Act.put, List.setIfInBounds_toArray, List.set_cons_zero, List.set_cons_succ]
          refine wpAnyH_load 1 34 (.tmp 12) rfl rfl rfl gZ (0) rfl r3.cells _ (fun w' h => by
            have e := XZ.out.mv h (by have := XZ.out.lt; (try have := ORD.out); omega)
            exact e.all) Tryd.underlying34 rfl size_ratio (by kernel_rfl) (by kernel_rfl) (by kernel_rfl) (fun _ _ _ h => h) (by assumption) ?_
          simp only [Act.put, List.setIfInBounds_toArray, List.set_cons_zero, List.set_cons_succ]
          refine wpAnyH_pure 2 (v := .bool false) rfl (by kernel_rfl) (by kernel_rfl) (by kernel_rfl) (fun _ _ _ h => h) rfl (fun _ => by
            obtain ⟨hβ, hγ⟩ := HGV.out
            have e1 := rs.d_cell
            have e2 := rs.ext06
            have e3 := r3.d_cell
            have e4 := r3.ext06
            cases β
            · clear hγ
              go_simp
            · have hdd : (rs.d = r3.d) = False := by simpa using hγ
              clear hγ
              go_simp) (by assumption) ?_
          simp only [Act.put, List.setIfInBounds_toArray, List.set_cons_zero, List.set_cons_succ]
          refine wpAnyH_pure 3 (v := .bool false) rfl (by kernel_rfl) (by kernel_rfl) (by kernel_rfl) (fun _ _ _ h => h) rfl (fun _ => rfl) (by assumption) ?_
          simp only [Act.put, List.setIfInBounds_toArray, List.set_cons_zero, List.set_cons_succ]
          refine wpAnyH_loadg 4 34 (.tmp 16) rfl rfl (by rfl) gS (0) rfl rs.cells _ (fun w' h => by
            have e := XS.out.mv h (by have := XS.out.lt; (try have := ORD.out); omega)
            exact e.all) Tryd.underlying34 rfl size_ratio (by kernel_rfl) (by kernel_rfl) (by kernel_rfl) (fun _ _ _ h => h) (by assumption) ?_
          simp only [Act.put, List.setIfInBounds_toArray, List.set_cons_zero, List.set_cons_succ]
          refine wpAnyH_loadg 5 34 (.tmp 20) rfl rfl (by rfl) gU (0) rfl rs.cells _ (fun w' h => by
            have e := XU.out.mv h (by have := XU.out.lt; (try have := ORD.out); omega)
            rw [← HGF.out rfl] at e
            exact e.all) Tryd.underlying34 rfl size_ratio (by kernel_rfl) (by kernel_rfl) (by kernel_rfl) (fun _ _ _ h => h) (by assumption) ?_
          simp only [Act.put, List.setIfInBounds_toArray, List.set_cons_zero, List.set_cons_succ]
          refine wpAnyH_pureg 6 (v := .bool true) rfl (by kernel_rfl) (by kernel_rfl) (by kernel_rfl) (fun _ _ _ h => h) (by rfl) (fun _ => by go_simp) (by assumption) ?_
          simp only [Act.put, List.setIfInBounds_toArray, List.set_cons_zero, List.set_cons_succ]
          refine wpAnyH_pure 7 (v := .bool true) rfl (by kernel_rfl) (by kernel_rfl) (by kernel_rfl) (fun _ _ _ h => h) rfl (fun _ => by go_simp) (by assumption) ?_
          simp only [Act.put, List.setIfInBounds_toArray, List.set_cons_zero, List.set_cons_succ]
          refine wpAnyH_pure 8 (v := .bool true) rfl (by kernel_rfl) (by kernel_rfl) (by kernel_rfl) (fun _ _ _ h => h) rfl (fun _ => rfl) (by assumption) ?_
          simp only [Act.put, List.setIfInBounds_toArray, List.set_cons_zero, List.set_cons_succ]
          refine wpAnyH_pureg 9 (v := .int .i64 (x : Int)) rfl (by kernel_rfl) (by kernel_rfl) (by kernel_rfl) (fun _ _ _ h => h) (by rfl) (fun _ => rfl) (by assumption) ?_
          simp only [Act.put, List.setIfInBounds_toArray, List.set_cons_zero, List.set_cons_succ]
          refine wpAnyH_pureg 10 (v := .int .i64 (y : Int)) rfl (by kernel_rfl) (by kernel_rfl) (by kernel_rfl) (fun _ _ _ h => h) (by rfl) (fun _ => rfl) (by assumption) ?_
          simp only [Act.put, List.setIfInBounds_toArray, List.set_cons_zero, List.set_cons_succ]
          refine wpAnyH_pureg 11 (v := .bool false) rfl (by kernel_rfl) (by kernel_rfl) (by kernel_rfl) (fun _ _ _ h => h) (by rfl) (fun _ => by go_simp) (by assumption) ?_
          simp only [Act.put, List.setIfInBounds_toArray, List.set_cons_zero, List.set_cons_succ]
          refine wpAnyH_pureg 12 (v := .bool false) rfl (by kernel_rfl) (by kernel_rfl) (by kernel_rfl) (fun _ _ _ h => h) (by rfl) (fun _ => rfl) (by assumption) ?_
          simp only [Act.put, List.setIfInBounds_toArray, List.set_cons_zero, List.set_cons_succ]
          refine wpAnyH_no 13 rfl (by kernel_rfl) (by kernel_rfl) (by kernel_rfl) (fun _ _ _ h => h) (by rfl) (by assumption) ?_
          simp only [Act.put, List.setIfInBounds_toArray, List.set_cons_zero, List.set_cons_succ]
          refine wpAnyH_no 14 rfl (by kernel_rfl) (by kernel_rfl) (by kernel_rfl) (fun _ _ _ h => h) (by rfl) (by assumption) ?_
          simp only [Act.put, List.setIfInBounds_toArray, List.set_cons_zero, List.set_cons_succ]
          refine wpAnyH_no 15 rfl (by kernel_rfl) (by kernel_rfl) (by kernel_rfl) (fun _ _ _ h => h) (by rfl) (by assumption) ?_
          simp only [Act.put, List.setIfInBounds_toArray, List.set_cons_zero, List.set_cons_succ]
          refine wpAnyH_pureg 16 (v := .bool false) rfl (by kernel_rfl) (by kernel_rfl) (by kernel_rfl) (fun _ _ _ h => h) (by rfl) (fun _ => by go_simp) (by assumption) ?_
          simp only [Act.put, List.setIfInBounds_toArray, List.set_cons_zero, List.set_cons_succ]
          refine wpAnyH_pureg 17 (v := .bool false) rfl (by kernel_rfl) (by kernel_rfl) (by kernel_rfl) (fun _ _ _ h => h) (by rfl) (fun _ => rfl) (by assumption) ?_
          simp only [Act.put, List.setIfInBounds_toArray, List.set_cons_zero, List.set_cons_succ]
          refine wpAnyH_pureg 18 (v := .int .i64 (x : Int)) rfl (by kernel_rfl) (by kernel_rfl) (by kernel_rfl) (fun _ _ _ h => h) (by rfl) (fun _ => rfl) (by assumption) ?_
          simp only [Act.put, List.setIfInBounds_toArray, List.set_cons_zero, List.set_cons_succ]
          refine wpAnyH_pureg 19 (v := .int .i64 (y : Int)) rfl (by kernel_rfl) (by kernel_rfl) (by kernel_rfl) (fun _ _ _ h => h) (by rfl) (fun _ => rfl) (by assumption) ?_
          simp only [Act.put, List.setIfInBounds_toArray, List.set_cons_zero, List.set_cons_succ]
          refine wpAnyH_pureg 20 (v := .bool true) rfl (by kernel_rfl) (by kernel_rfl) (by kernel_rfl) (fun _ _ _ h => h) (by rfl) (fun _ => by go_simp) (by assumption) ?_
          simp only [Act.put, List.setIfInBounds_toArray, List.set_cons_zero, List.set_cons_succ]
          refine wpAnyH_pureg 21 (v := .bool true) rfl (by kernel_rfl) (by kernel_rfl) (by kernel_rfl) (fun _ _ _ h => h) (by rfl) (fun _ => rfl) (by assumption) ?_
          simp only [Act.put, List.setIfInBounds_toArray, List.set_cons_zero, List.set_cons_succ]
          refine wpAnyH_loadg 22 34 (.tmp 18) rfl rfl (by rfl) gO (0) rfl ro.cells _ (fun w' h => by
            have e := XO.out.mv h (by have := XO.out.lt; (try have := ORD.out); omega)
            exact e.all) Tryd.underlying34 rfl size_ratio (by kernel_rfl) (by kernel_rfl) (by kernel_rfl) (fun _ _ _ h => h) (by assumption) ?_
          simp only [Act.put, List.setIfInBounds_toArray, List.set_cons_zero, List.set_cons_succ]
          refine wpAnyH_onew 23 rfl (by kernel_rfl) (by rfl) (fun K hK => ?_)
          go_simp
          go_at_call 12
          (with_reducible refine (HC2.out _).mono ?_)
          rintro e z140 ⟨rfl, hb⟩
          replace HSW : Sl (RowKit.Below w33.heap.size w33 z140) := ⟨HSW.out.trans (hb.mono HSW.out.size)⟩
          refine hK.out _ _ (Mv.below HSW.out) (fun hHeld => ?_)
          clear hK K hb
          (try simp only [Act.put, List.setIfInBounds_toArray, List.set_cons_zero, List.set_cons_succ])
          refine wpAnyH_pureg 24 (v := .bool true) rfl (by kernel_rfl) (by kernel_rfl) (by kernel_rfl) (fun _ _ _ h => h) (by rfl) (fun _ => by go_simp) (by assumption) ?_
          simp only [Act.put, List.setIfInBounds_toArray, List.set_cons_zero, List.set_cons_succ]
          refine wpAnyH_pureg 25 (v := .bool true) rfl (by kernel_rfl) (by kernel_rfl) (by kernel_rfl) (fun _ _ _ h => h) (by rfl) (fun _ => by go_simp) (by assumption) ?_
          simp only [Act.put, List.setIfInBounds_toArray, List.set_cons_zero, List.set_cons_succ]
          refine wpAnyH_pureg 26 (v := .bool true) rfl (by kernel_rfl) (by kernel_rfl) (by kernel_rfl) (fun _ _ _ h => h) (by rfl) (fun _ => by go_simp) (by assumption) ?_
          simp only [Act.put, List.setIfInBounds_toArray, List.set_cons_zero, List.set_cons_succ]
          refine wpAnyH_pure 27 (v := .bool true) rfl (by kernel_rfl) (by kernel_rfl) (by kernel_rfl) (fun _ _ _ h => h) rfl (fun _ => by go_simp) (by assumption) ?_
          simp only [Act.put, List.setIfInBounds_toArray, List.set_cons_zero, List.set_cons_succ]
          refine wpAnyH_pure 28 (v := .bool true) rfl (by kernel_rfl) (by kernel_rfl) (by kernel_rfl) (fun _ _ _ h => h) rfl (fun _ => rfl) (by assumption) ?_
          simp only [Act.put, List.setIfInBounds_toArray, List.set_cons_zero, List.set_cons_succ]
          refine wpAnyH_onew 29 rfl (by kernel_rfl) (by rfl) (fun K hK => ?_)
          go_simp
          go_at_call 9
          (with_reducible refine (HAW.out _ (HT.out.below (HB.out.trans (HSW.out.mono HB.out.size)))).mono ?_)
          rintro e z141 ⟨rfl, hb⟩
          replace HSW : Sl (RowKit.Below w33.heap.size w33 z141) := ⟨HSW.out.trans (hb.mono HSW.out.size)⟩
          refine hK.out _ _ (Mv.below HSW.out) (fun hHeld => ?_)
          clear hK K hb
          (try simp only [Act.put, List.setIfInBounds_toArray, List.set_cons_zero, List.set_cons_succ])
          refine wpAnyH_pure 30 (v := .bool true) rfl (by kernel_rfl) (by kernel_rfl) (by kernel_rfl) (fun _ _ _ h => h) rfl (fun _ => by go_simp) (by assumption) ?_
          simp only [Act.put, List.setIfInBounds_toArray, List.set_cons_zero, List.set_cons_succ]
          refine wpAnyH_pure 31 (v := .bool true) rfl (by kernel_rfl) (by kernel_rfl) (by kernel_rfl) (fun _ _ _ h => h) rfl (fun _ => rfl) (by assumption) ?_
          simp only [Act.put, List.setIfInBounds_toArray, List.set_cons_zero, List.set_cons_succ]
          refine wpAnyH_done (by kernel_rfl) ?_ _
          replace HB : Sl (Below w.heap.size w z141) := ⟨HB.out.trans (HSW.out.mono HB.out.size)⟩
          replace XT : Sl (Blk z141 gT 26 t.cells) := ⟨XT.out.below HSW.out XT.out.lt⟩
          replace XX : Sl (Blk z141 gX 34 r1.cells) := ⟨XX.out.below HSW.out XX.out.lt⟩
          replace XY : Sl (Blk z141 gY 34 r2.cells) := ⟨XY.out.below HSW.out XY.out.lt⟩
          replace XZ : Sl (Blk z141 gZ 34 r3.cells) := ⟨XZ.out.below HSW.out XZ.out.lt⟩
          replace XV : Sl (Blk z141 gV 34 r4.cells) := ⟨XV.out.below HSW.out XV.out.lt⟩
          replace XS : Sl (Blk z141 gS 34 rs.cells) := ⟨XS.out.below HSW.out XS.out.lt⟩
          replace XO : Sl (Blk z141 gO 34 ro.cells) := ⟨XO.out.below HSW.out XO.out.lt⟩
          replace XU : Sl (Blk z141 gU 34 ru.cells) := ⟨XU.out.below HSW.out XU.out.lt⟩
          clear HSW; (try clear hHeld)
          go_wp2_with fail
          go_ret
          exact ⟨rfl, HB.out⟩
        · skip
          have hm : Mv w33.heap.size w33 w33.drew := Mv.drew _ _
          have hs : RowKit.Below w33.heap.size w33 w33.drew := below_drewN (Below.refl _ _) 1
          have HSW : Sl _ := ⟨hs⟩
          clear hs
          refine wp_region_held_drew (S := fun w' => Mv w33.heap.size w33 w') (by kernel_rfl) hm (fun hHeld => ?_)
          clear hm
          refine wpAnyH_load 0 34 (.tmp 16) rfl rfl rfl gS (0) rfl rs.cells _ (fun w' h => by
            have e := XS.out.mv h (by have := XS.out.lt; (try have := ORD.out); omega)
            exact e.all) Tryd.underlying34 rfl size_ratio (by kernel_rfl) (by kernel_rfl) (by kernel_rfl) (fun _ _ _ h => h) (by assumption) ?_
          simp only [Act.put, List.setIfInBounds_toArray, List.set_cons_zero, List.set_cons_succ]
          refine wpAnyH_load 1 34 (.tmp 12) rfl rfl rfl gZ (0) rfl r3.cells _ (fun w' h => by
            have e := XZ.out.mv h (by have := XZ.out.lt; (try have := ORD.out); omega)
            exact e.all) Tryd.underlying34 rfl size_ratio (by kernel_rfl) (by kernel_rfl) (by kernel_rfl) (fun _ _ _ h => h) (by assumption) ?_
          simp only [Act.put, List.setIfInBounds_toArray, List.set_cons_zero, List.set_cons_succ]
          refine wpAnyH_pure 2 (v := .bool true) rfl (by kernel_rfl) (by kernel_rfl) (by kernel_rfl) (fun _ _ _ h => h) rfl (fun _ => by
            obtain ⟨hβ, hγ⟩ := HGV.out
            have e1 := rs.d_cell
            have e2 := rs.ext06
            have e3 := r3.d_cell
            have e4 := r3.ext06
            cases β
            · exact absurd hγ (by simp)
            · have hdd : rs.d = r3.d := by simpa using hγ
              clear hγ
              go_simp) (by assumption) ?_
          simp only [Act.put, List.setIfInBounds_toArray, List.set_cons_zero, List.set_cons_succ]
          refine wpAnyH_pure 3 (v := .bool true) rfl (by kernel_rfl) (by kernel_rfl) (by kernel_rfl) (fun _ _ _ h => h) rfl (fun _ => rfl) (by assumption) ?_
          simp only [Act.put, List.setIfInBounds_toArray, List.set_cons_zero, List.set_cons_succ]
          refine wpAnyH_no 4 rfl (by kernel_rfl) (by kernel_rfl) (by kernel_rfl) (fun _ _ _ h => h) (by rfl) (by assumption) ?_
          simp only [Act.put, List.setIfInBounds_toArray, List.set_cons_zero, List.set_cons_succ]
          refine wpAnyH_no 5 rfl (by kernel_rfl) (by kernel_rfl) (by kernel_rfl) (fun _ _ _ h => h) (by rfl) (by assumption) ?_
          simp only [Act.put, List.setIfInBounds_toArray, List.set_cons_zero, List.set_cons_succ]
          refine wpAnyH_no 6 rfl (by kernel_rfl) (by kernel_rfl) (by kernel_rfl) (fun _ _ _ h => h) (by rfl) (by assumption) ?_
          simp only [Act.put, List.setIfInBounds_toArray, List.set_cons_zero, List.set_cons_succ]
          refine wpAnyH_pure 7 (v := .bool true) rfl (by kernel_rfl) (by kernel_rfl) (by kernel_rfl) (fun _ _ _ h => h) rfl (fun _ => by go_simp) (by assumption) ?_
          simp only [Act.put, List.setIfInBounds_toArray, List.set_cons_zero, List.set_cons_succ]
          refine wpAnyH_pure 8 (v := .bool true) rfl (by kernel_rfl) (by kernel_rfl) (by kernel_rfl) (fun _ _ _ h => h) rfl (fun _ => rfl) (by assumption) ?_
          simp only [Act.put, List.setIfInBounds_toArray, List.set_cons_zero, List.set_cons_succ]
          refine wpAnyH_pureg 9 (v := .int .i64 (x : Int)) rfl (by kernel_rfl) (by kernel_rfl) (by kernel_rfl) (fun _ _ _ h => h) (by rfl) (fun _ => rfl) (by assumption) ?_
          simp only [Act.put, List.setIfInBounds_toArray, List.set_cons_zero, List.set_cons_succ]
          refine wpAnyH_pureg 10 (v := .int .i64 (y : Int)) rfl (by kernel_rfl) (by kernel_rfl) (by kernel_rfl) (fun _ _ _ h => h) (by rfl) (fun _ => rfl) (by assumption) ?_
          simp only [Act.put, List.setIfInBounds_toArray, List.set_cons_zero, List.set_cons_succ]
          refine wpAnyH_pureg 11 (v := .bool false) rfl (by kernel_rfl) (by kernel_rfl) (by kernel_rfl) (fun _ _ _ h => h) (by rfl) (fun _ => by go_simp) (by assumption) ?_
          simp only [Act.put, List.setIfInBounds_toArray, List.set_cons_zero, List.set_cons_succ]
          refine wpAnyH_pureg 12 (v := .bool false) rfl (by kernel_rfl) (by kernel_rfl) (by kernel_rfl) (fun _ _ _ h => h) (by rfl) (fun _ => rfl) (by assumption) ?_
          simp only [Act.put, List.setIfInBounds_toArray, List.set_cons_zero, List.set_cons_succ]
          refine wpAnyH_no 13 rfl (by kernel_rfl) (by kernel_rfl) (by kernel_rfl) (fun _ _ _ h => h) (by rfl) (by assumption) ?_
          simp only [Act.put, List.setIfInBounds_toArray, List.set_cons_zero, List.set_cons_succ]
          refine wpAnyH_no 14 rfl (by kernel_rfl) (by kernel_rfl) (by kernel_rfl) (fun _ _ _ h => h) (by rfl) (by assumption) ?_
          simp only [Act.put, List.setIfInBounds_toArray, List.set_cons_zero, List.set_cons_succ]
          refine wpAnyH_no 15 rfl (by kernel_rfl) (by kernel_rfl) (by kernel_rfl) (fun _ _ _ h => h) (by rfl) (by assumption) ?_
          simp only [Act.put, List.setIfInBounds_toArray, List.set_cons_zero, List.set_cons_succ]
          refine wpAnyH_pureg 16 (v := .bool false) rfl (by kernel_rfl) (by kernel_rfl) (by kernel_rfl) (fun _ _ _ h => h) (by rfl) (fun _ => by go_simp) (by assumption) ?_
          simp only [Act.put, List.setIfInBounds_toArray, List.set_cons_zero, List.set_cons_succ]
          refine wpAnyH_pureg 17 (v := .bool false) rfl (by kernel_rfl) (by kernel_rfl) (by kernel_rfl) (fun _ _ _ h => h) (by rfl) (fun _ => rfl) (by assumption) ?_
          simp only [Act.put, List.setIfInBounds_toArray, List.set_cons_zero, List.set_cons_succ]
          refine wpAnyH_pureg 18 (v := .int .i64 (x : Int)) rfl (by kernel_rfl) (by kernel_rfl) (by kernel_rfl) (fun _ _ _ h => h) (by rfl) (fun _ => rfl) (by assumption) ?_
          simp only [Act.put, List.setIfInBounds_toArray, List.set_cons_zero, List.set_cons_succ]
          refine wpAnyH_pureg 19 (v := .int .i64 (y : Int)) rfl (by kernel_rfl) (by kernel_rfl) (by kernel_rfl) (fun _ _ _ h => h) (by rfl) (fun _ => rfl) (by assumption) ?_
          simp only [Act.put, List.setIfInBounds_toArray, List.set_cons_zero, List.set_cons_succ]
          refine wpAnyH_pureg 20 (v := .bool true) rfl (by kernel_rfl) (by kernel_rfl) (by kernel_rfl) (fun _ _ _ h => h) (by rfl) (fun _ => by go_simp) (by assumption) ?_
          simp only [Act.put, List.setIfInBounds_toArray, List.set_cons_zero, List.set_cons_succ]
          refine wpAnyH_pureg 21 (v := .bool true) rfl (by kernel_rfl) (by kernel_rfl) (by kernel_rfl) (fun _ _ _ h => h) (by rfl) (fun _ => rfl) (by assumption) ?_
          simp only [Act.put, List.setIfInBounds_toArray, List.set_cons_zero, List.set_cons_succ]
          refine wpAnyH_loadg 22 34 (.tmp 18) rfl rfl (by rfl) gO (0) rfl ro.cells _ (fun w' h => by
            have e := XO.out.mv h (by have := XO.out.lt; (try have := ORD.out); omega)
            exact e.all) Tryd.underlying34 rfl size_ratio (by kernel_rfl) (by kernel_rfl) (by kernel_rfl) (fun _ _ _ h => h) (by assumption) ?_
          simp only [Act.put, List.setIfInBounds_toArray, List.set_cons_zero, List.set_cons_succ]
          refine wpAnyH_onew 23 rfl (by kernel_rfl) (by rfl) (fun K hK => ?_)
          go_simp
          go_at_call 12
          (with_reducible refine (HC2.out _).mono ?_)
          rintro e z193 ⟨rfl, hb⟩
          replace HSW : Sl (RowKit.Below w33.heap.size w33 z193) := ⟨HSW.out.trans (hb.mono HSW.out.size)⟩
          refine hK.out _ _ (Mv.below HSW.out) (fun hHeld => ?_)
          clear hK K hb
          (try simp only [Act.put, List.setIfInBounds_toArray, List.set_cons_zero, List.set_cons_succ])
          refine wpAnyH_pureg 24 (v := .bool true) rfl (by kernel_rfl) (by kernel_rfl) (by kernel_rfl) (fun _ _ _ h => h) (by rfl) (fun _ => by go_simp) (by assumption) ?_
          simp only [Act.put, List.setIfInBounds_toArray, List.set_cons_zero, List.set_cons_succ]
          refine wpAnyH_pureg 25 (v := .bool true) rfl (by kernel_rfl) (by kernel_rfl) (by kernel_rfl) (fun _ _ _ h => h) (by rfl) (fun _ => by go_simp) (by assumption) ?_
          simp only [Act.put, List.setIfInBounds_toArray, List.set_cons_zero, List.set_cons_succ]
          refine wpAnyH_pureg 26 (v := .bool true) rfl (by kernel_rfl) (by kernel_rfl) (by kernel_rfl) (fun _ _ _ h => h) (by rfl) (fun _ => by go_simp) (by assumption) ?_
          simp only [Act.put, List.setIfInBounds_toArray, List.set_cons_zero, List.set_cons_succ]
          refine wpAnyH_pure 27 (v := .bool true) rfl (by kernel_rfl) (by kernel_rfl) (by kernel_rfl) (fun _ _ _ h => h) rfl (fun _ => by go_simp) (by assumption) ?_
          simp only [Act.put, List.setIfInBounds_toArray, List.set_cons_zero, List.set_cons_succ]
          refine wpAnyH_pure 28 (v := .bool true) rfl (by kernel_rfl) (by kernel_rfl) (by kernel_rfl) (fun _ _ _ h => h) rfl (fun _ => rfl) (by assumption) ?_
          simp only [Act.put, List.setIfInBounds_toArray, List.set_cons_zero, List.set_cons_succ]
          refine wpAnyH_onew 29 rfl (by kernel_rfl) (by rfl) (fun K hK => ?_)
          go_simp
          go_at_call 9
          (with_reducible refine (HAW.out _ (HT.out.below (HB.out.trans (HSW.out.mono HB.out.size)))).mono ?_)
          rintro e z194 ⟨rfl, hb⟩
          replace HSW : Sl (RowKit.Below w33.heap.size w33 z194) := ⟨HSW.out.trans (hb.mono HSW.out.size)⟩
          refine hK.out _ _ (Mv.below HSW.out) (fun hHeld => ?_)
          clear hK K hb
          (try simp only [Act.put, List.setIfInBounds_toArray, List.set_cons_zero, List.set_cons_succ])
          refine wpAnyH_pure 30 (v := .bool true) rfl (by kernel_rfl) (by kernel_rfl) (by kernel_rfl) (fun _ _ _ h => h) rfl (fun _ => by go_simp) (by assumption) ?_
          simp only [Act.put, List.setIfInBounds_toArray, List.set_cons_zero, List.set_cons_succ]
          refine wpAnyH_pure 31 (v := .bool true) rfl (by kernel_rfl) (by kernel_rfl) (by kernel_rfl) (fun _ _ _ h => h) rfl (fun _ => rfl) (by assumption) ?_
          simp only [Act.put, List.setIfInBounds_toArray, List.set_cons_zero, List.set_cons_succ]
          refine wpAnyH_done (by kernel_rfl) ?_ _
          replace HB : Sl (Below w.heap.size w z194) := ⟨HB.out.trans (HSW.out.mono HB.out.size)⟩
          replace XT : Sl (Blk z194 gT 26 t.cells) := ⟨XT.out.below HSW.out XT.out.lt⟩
          replace XX : Sl (Blk z194 gX 34 r1.cells) := ⟨XX.out.below HSW.out XX.out.lt⟩
          replace XY : Sl (Blk z194 gY 34 r2.cells) := ⟨XY.out.below HSW.out XY.out.lt⟩
          replace XZ : Sl (Blk z194 gZ 34 r3.cells) := ⟨XZ.out.below HSW.out XZ.out.lt⟩
          replace XV : Sl (Blk z194 gV 34 r4.cells) := ⟨XV.out.below HSW.out XV.out.lt⟩
          replace XS : Sl (Blk z194 gS 34 rs.cells) := ⟨XS.out.below HSW.out XS.out.lt⟩
          replace XO : Sl (Blk z194 gO 34 ro.cells) := ⟨XO.out.below HSW.out XO.out.lt⟩
          replace XU : Sl (Blk z194 gU 34 ru.cells) := ⟨XU.out.below HSW.out XU.out.lt⟩
          clear HSW; (try clear hHeld)
          go_wp2_with fail
          go_ret
          exact ⟨rfl, HB.out⟩
  · have hz : ((er : Int) != 0) = true := by rw [bne_iff_ne]; exact h0
    clear h0
    go_wp2_with fail
    refine (HAW.out _ (HT.out.below HB.out)).mono ?_; rintro e w296 ⟨rfl, hb⟩
    replace HB : Sl (Below w.heap.size w w296) := ⟨HB.out.trans (hb.mono HB.out.size)⟩
    replace XT : Sl (Blk w296 gT 26 t.cells) := ⟨XT.out.below hb XT.out.lt⟩
    replace XL : Sl (Blk w296 gL 31 (c3 a b c)) := ⟨XL.out.below hb XL.out.lt⟩
    clear hb
    go_wp2_with fail
    go_ret
    exact ⟨rfl, HB.out⟩
end Go.Proofs.YtmcoadmnkelkkaaDoor
