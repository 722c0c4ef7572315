/- Plain law: how a mixture is checked. No program in sight. -/
import Derived.Test.YtbaojmfkjpnfhaaGreatDoorMixP
namespace Go.Proofs.YtbaojmfkjpnfhaaGreatDoor
set_option linter.unusedSimpArgs false
set_option linter.unusedVariables false

/-- does one of the first n have it? -/
def anyN : Nat → (Nat → Bool) → Bool
  | 0, _ => false
  | k+1, p => anyN k p || p k
theorem anyN_iff {p : Nat → Bool} : ∀ {n : Nat}, anyN n p = true ↔ ∃ i, i < n ∧ p i = true
  | 0 => by simp [anyN]
  | k+1 => by
    rw [anyN, Bool.or_eq_true, anyN_iff]
    constructor
    · rintro (⟨i, hi, hp⟩ | hp)
      · exact ⟨i, by omega, hp⟩
      · exact ⟨k, by omega, hp⟩
    · rintro ⟨i, hi, hp⟩
      rcases Nat.lt_or_ge i k with h | h
      · exact .inl ⟨i, h, hp⟩
      · obtain rfl : i = k := by omega
        exact .inr hp
theorem anyN_no {p : Nat → Bool} {n : Nat} : anyN n p = false ↔ ∀ i, i < n → p i = false := by
  constructor
  · intro h i hi
    cases hp : p i with
    | false => rfl
    | true => rw [anyN_iff.2 ⟨i, hi, hp⟩] at h; cases h
  · intro h
    cases hp : anyN n p with
    | false => rfl
    | true =>
      obtain ⟨i, hi, h1⟩ := anyN_iff.1 hp
      rw [h i hi] at h1; cases h1
theorem anyN_hit {p : Nat → Bool} {n i : Nat} (hi : i < n) (hp : p i = true) : anyN n p = true := anyN_iff.2 ⟨i, hi, hp⟩
theorem anyN_congr {p q : Nat → Bool} : ∀ {n : Nat}, (∀ i, i < n → p i = q i) → anyN n p = anyN n q
  | 0, _ => rfl
  | k+1, h => by rw [anyN, anyN, anyN_congr (fun i hi => h i (by omega)), h k (by omega)]
theorem anyN_or {p q : Nat → Bool} : ∀ {n : Nat}, anyN n (fun i => p i || q i) = (anyN n p || anyN n q)
  | 0 => rfl
  | k+1 => by
    rw [anyN, anyN, anyN, anyN_or]
    cases anyN k p <;> cases anyN k q <;> cases p k <;> cases q k <;> rfl
/-- the element at a place -/
def gt (l : List Int) (i : Nat) : Int := l[i]?.getD 0
theorem gt_at {l : List Int} {i : Nat} (h : i < l.length) : l[i]? = some (gt l i) := by
  unfold gt; rw [List.getElem?_eq_getElem h]; rfl
/-- is a row not in ascending order? the first k pairs -/
def dnN (l : List Int) (k : Nat) : Bool := anyN k fun j => decide (gt l (j + 1) < gt l j)
def dn (l : List Int) : Bool := dnN l (l.length - 1)
def outI (v : Int) : Bool := decide (v < -24) || decide (72 < v)
def outL (l : List Int) : Bool := anyN l.length fun j => outI (gt l j)
def Mx.cmp (x : Mx) : Bool := decide (0 ≤ x.a) && decide (x.b ≤ 127) && decide (x.a ≤ x.b) && decide (x.b - x.a < 61)
def Mx.many (x : Mx) : Bool := anyN x.n fun i => decide (8 < (x.rk i).length)
def Mx.long (x : Mx) : Bool := decide (12 < x.n) || x.many
/-- is a break out of order? -/
def Mx.ill (x : Mx) (i : Nat) : Bool := decide ((x.rk i).length = 0) || dn (x.rk i) || decide (x.b < x.fr i) || (decide (0 < i) && decide (x.fr i ≤ x.fr (i - 1)))
def Mx.arg (x : Mx) : Bool := decide (x.n = 0) || decide (x.fr 0 ≠ x.a) || anyN x.n x.ill
def Mx.rng (x : Mx) : Bool := anyN x.n fun i => outL (x.rk i)
/-- does a break sound too low or too high? -/
def Mx.bad (x : Mx) (i : Nat) : Bool := decide (x.fr i + gt (x.rk i) 0 < 0) || decide (139 < x.last i + gt (x.rk i) ((x.rk i).length - 1))
def Mx.snd (x : Mx) : Bool := anyN x.n x.bad
def Mx.chk1 (x : Mx) : Int := if x.cmp = false then 7 else if x.long then 3 else if x.arg then 2 else if x.rng then 7 else 0
def Mx.chk (x : Mx) : Int := if x.chk1 ≠ 0 then x.chk1 else if x.snd then 7 else 0
theorem Mx.chk1_ok {x : Mx} (h : x.chk1 = 0) : x.cmp = true ∧ x.long = false ∧ x.arg = false ∧ x.rng = false := by
  unfold Mx.chk1 at h
  cases h1 : x.cmp <;> cases h2 : x.long <;> cases h3 : x.arg <;> cases h4 : x.rng <;> simp [h1, h2, h3, h4] at h <;> simp
theorem Mx.chk_ok {x : Mx} (h : x.chk = 0) : x.chk1 = 0 ∧ x.snd = false := by
  unfold Mx.chk at h
  by_cases h1 : x.chk1 = 0
  · rw [if_neg (by simpa using h1)] at h
    cases h2 : x.snd
    · exact ⟨h1, rfl⟩
    · rw [h2] at h; simp at h
  · rw [if_pos h1] at h; exact absurd h h1
theorem Mx.cmp_ok {x : Mx} (h : x.cmp = true) : 0 ≤ x.a ∧ x.b ≤ 127 ∧ x.a ≤ x.b ∧ x.b - x.a < 61 := by
  unfold Mx.cmp at h; simp at h; omega
theorem Mx.long_ok {x : Mx} (h : x.long = false) : x.n ≤ 12 ∧ ∀ i, i < x.n → (x.rk i).length ≤ 8 := by
  unfold Mx.long at h
  rw [Bool.or_eq_false_iff] at h
  refine ⟨by simpa using h.1, fun i hi => ?_⟩
  have := anyN_no.1 h.2 i hi
  simpa using this
theorem Mx.arg_ok {x : Mx} (h : x.arg = false) : 0 < x.n ∧ x.fr 0 = x.a ∧ ∀ i, i < x.n → x.ill i = false := by
  unfold Mx.arg at h
  rw [Bool.or_eq_false_iff, Bool.or_eq_false_iff] at h
  refine ⟨by have := h.1.1; simp at this; omega, by have := h.1.2; simpa using this, anyN_no.1 h.2⟩
theorem Mx.ill_ok {x : Mx} {i : Nat} (h : x.ill i = false) : 0 < (x.rk i).length ∧ dn (x.rk i) = false ∧ x.fr i ≤ x.b ∧ (0 < i → x.fr (i - 1) < x.fr i) := by
  unfold Mx.ill at h
  rw [Bool.or_eq_false_iff, Bool.or_eq_false_iff, Bool.or_eq_false_iff] at h
  obtain ⟨⟨⟨h1, h2⟩, h3⟩, h4⟩ := h
  refine ⟨by simp at h1; cases hr : x.rk i with
    | nil => exact absurd hr h1
    | cons a l => simp, h2, by simpa using h3, fun h0 => ?_⟩
  simp [h0] at h4; exact h4
theorem Mx.ord_of {x : Mx} (h : x.arg = false) : x.Ord := by
  obtain ⟨h1, h2, h3⟩ := Mx.arg_ok h
  refine ⟨h1, h2, fun i hi => ?_, fun i hi => (Mx.ill_ok (h3 i hi)).2.2.1, fun i hi e => ?_⟩
  · have := (Mx.ill_ok (h3 (i + 1) hi)).2.2.2 (by omega)
    simpa using this
  · have := (Mx.ill_ok (h3 i hi)).1
    rw [e] at this; simp at this
theorem outL_ok {l : List Int} (h : outL l = false) {j : Nat} (hj : j < l.length) : -24 ≤ gt l j ∧ gt l j ≤ 72 := by
  have := anyN_no.1 h j hj
  unfold outI at this; simp at this; omega
/-- what holds of a mixture that passes check -/
structure Mx.Fine (x : Mx) : Prop where
  a0 : 0 ≤ x.a
  b1 : x.b ≤ 127
  ab : x.a ≤ x.b
  wide : x.b - x.a < 61
  n1 : x.n ≤ 12
  k1 : ∀ i, i < x.n → (x.rk i).length ≤ 8
  k0 : ∀ i, i < x.n → 0 < (x.rk i).length
  dn0 : ∀ i, i < x.n → dn (x.rk i) = false
  ord : x.Ord
  rg : ∀ i, i < x.n → ∀ j, j < (x.rk i).length → -24 ≤ gt (x.rk i) j ∧ gt (x.rk i) j ≤ 72
theorem Mx.fine {x : Mx} (h : x.chk1 = 0) : x.Fine := by
  obtain ⟨h1, h2, h3, h4⟩ := Mx.chk1_ok h
  obtain ⟨a1, a2, a3, a4⟩ := Mx.cmp_ok h1
  obtain ⟨b1, b2⟩ := Mx.long_ok h2
  obtain ⟨c1, c2, c3⟩ := Mx.arg_ok h3
  exact ⟨a1, a2, a3, a4, b1, b2, fun i hi => (Mx.ill_ok (c3 i hi)).1, fun i hi => (Mx.ill_ok (c3 i hi)).2.1, Mx.ord_of h3, fun i hi j hj => outL_ok (anyN_no.1 h4 i hi) hj⟩
theorem Mx.Fine.fr_bd {x : Mx} (h : x.Fine) {i : Nat} (hi : i < x.n) : 0 ≤ x.fr i ∧ x.fr i ≤ 127 := by
  have := h.ord.mono (Nat.zero_le i) hi
  have := h.ord.first
  have := h.ord.le i hi
  have := h.a0; have := h.b1
  omega
theorem Mx.Fine.last_bd {x : Mx} (h : x.Fine) {i : Nat} (hi : i < x.n) : 0 ≤ x.last i ∧ x.last i ≤ 127 := by
  have := h.ord.last_ge hi
  have := h.ord.last_le hi
  have := h.fr_bd hi
  have := h.b1
  omega
/-- what the document asks of a key -/
def Mx.kbad (x : Mx) (key : Int) : Bool := decide (key + gt (x.rk (x.at key x.n)) 0 < 0) || decide (139 < key + gt (x.rk (x.at key x.n)) ((x.rk (x.at key x.n)).length - 1))
theorem Mx.Fine.snd_keys {x : Mx} (h : x.Fine) : x.snd = anyN (x.b - x.a + 1).toNat fun k => x.kbad (x.a + (k : Int)) := by
  have hs := h.ord.sound (fun l => gt l 0) (fun l => gt l (l.length - 1)) 139
  have hab := h.ab
  rw [Bool.eq_iff_iff]
  unfold Mx.snd
  rw [anyN_iff, anyN_iff]
  constructor
  · rintro ⟨i, hi, hb⟩
    unfold Mx.bad at hb
    simp only [Bool.or_eq_true, decide_eq_true_eq] at hb
    obtain ⟨key, k1, k2, k3⟩ := hs.1 ⟨i, hi, hb⟩
    refine ⟨(key - x.a).toNat, by omega, ?_⟩
    rw [show x.a + (((key - x.a).toNat : Nat) : Int) = key by omega]
    unfold Mx.kbad
    simp only [Bool.or_eq_true, decide_eq_true_eq]
    exact k3
  · rintro ⟨k, hk, hb⟩
    unfold Mx.kbad at hb
    simp only [Bool.or_eq_true, decide_eq_true_eq] at hb
    obtain ⟨i, hi, h1⟩ := hs.2 ⟨x.a + (k : Int), by omega, by omega, hb⟩
    refine ⟨i, hi, ?_⟩
    unfold Mx.bad
    simp only [Bool.or_eq_true, decide_eq_true_eq]
    exact h1
end Go.Proofs.YtbaojmfkjpnfhaaGreatDoor
