/- Plain law: the sign of a product of powers of six primes is shown by bounds of logarithms with 512 binary places, or the product is 1. No program in sight. -/
import Derived.Test.YtalodfjplegibaaGreatDoorRatB
import Derived.Test.YtalodfjplegibaaGreatDoorRatL
namespace Go.Proofs.YtalodfjplegibaaGreatDoor
set_option linter.unusedSimpArgs false
set_option linter.unusedVariables false

/-- the sign of a product minus 1 -/
def sgn (l : List (Nat × Int)) : Int := if down l < up l then 1 else if up l < down l then -1 else 0
/-- the bounds of both sums of a product's logarithm, out of those of its numbers -/
def sumB (B : Nat → Nat × Nat) : List (Nat × Int) → (Nat × Nat) × (Nat × Nat)
  | [] => ((0, 0), (0, 0))
  | (n, k) :: l =>
    if 0 ≤ k then (((sumB B l).1.1 + (B n).1 * k.natAbs, (sumB B l).1.2 + (B n).2 * k.natAbs), (sumB B l).2)
    else ((sumB B l).1, ((sumB B l).2.1 + (B n).1 * k.natAbs, (sumB B l).2.2 + (B n).2 * k.natAbs))
theorem gsum_sumB : ∀ l : List (Nat × Int), gsum l = sumB qk l
  | [] => rfl
  | (n, k) :: l => by rw [gsum, sumB, gsum_sumB l]
theorem Bd.pow {n P : Nat} {x : Nat × Nat} (h : Bd n P x) (k : Nat) : 2 ^ (x.1 * k) ≤ (n ^ k) ^ 2 ^ P ∧ (n ^ k) ^ 2 ^ P ≤ 2 ^ (x.2 * k) := by
  rw [Nat.pow_mul, Nat.pow_mul, ← Nat.pow_mul n, Nat.mul_comm k, Nat.pow_mul n]
  exact ⟨Nat.pow_le_pow_left h.1 k, Nat.pow_le_pow_left h.2 k⟩
/-- such sums are bounds -/
theorem sumB_bd {P : Nat} {B : Nat → Nat × Nat} : ∀ {l : List (Nat × Int)}, (∀ x ∈ l, Bd x.1 P (B x.1)) → Bd (up l) P (sumB B l).1 ∧ Bd (down l) P (sumB B l).2
  | [], _ => by
    unfold Bd sumB up down
    simp
  | (n, k) :: l, h => by
    obtain ⟨h1, h2⟩ := sumB_bd fun x hx => h x (List.mem_cons_of_mem _ hx)
    have hn := (h _ List.mem_cons_self).pow k.natAbs
    simp only [] at hn
    rw [sumB, up, down]
    split
    · refine ⟨?_, h2⟩
      unfold Bd at h1 ⊢
      simp only []
      rw [Nat.mul_pow, Nat.add_comm, Nat.pow_add, Nat.add_comm, Nat.pow_add]
      exact ⟨Nat.mul_le_mul hn.1 h1.1, Nat.mul_le_mul hn.2 h1.2⟩
    · refine ⟨h1, ?_⟩
      unfold Bd at h2 ⊢
      simp only []
      rw [Nat.mul_pow, Nat.add_comm, Nat.pow_add, Nat.add_comm, Nat.pow_add]
      exact ⟨Nat.mul_le_mul hn.1 h2.1, Nat.mul_le_mul hn.2 h2.2⟩
theorem lt_of_bd {m n P : Nat} {x y : Nat × Nat} (hm : Bd m P x) (hn : Bd n P y) (h : y.2 < x.1) : n < m := by
  rcases Nat.lt_or_ge n m with h0 | h0
  · exact h0
  · have h1 := Nat.pow_le_pow_left h0 (2 ^ P)
    have h2 : 2 ^ y.2 < 2 ^ x.1 := Nat.pow_lt_pow_right (by decide) h
    have h3 := Nat.le_trans hm.1 (Nat.le_trans h1 hn.2)
    omega
/-- what the bounds show is right -/
theorem guessG_sound {P : Nat} {B : Nat → Nat × Nat} {l : List (Nat × Int)} (h : ∀ x ∈ l, Bd x.1 P (B x.1)) {s : Int} (hs : guessG (sumB B l) = some s) : s = sgn l := by
  obtain ⟨h1, h2⟩ := sumB_bd h
  unfold guessG at hs
  unfold sgn
  split at hs
  · rename_i hc
    injection hs with hs
    rw [if_pos (lt_of_bd h1 h2 hc), hs]
  · split at hs
    · rename_i hc
      injection hs with hs
      have h3 := lt_of_bd h2 h1 hc
      rw [if_neg (by omega), if_pos h3, hs]
    · cases hs
theorem sgn_one {l : List (Nat × Int)} (h : up l = down l) : sgn l = 0 := by unfold sgn; rw [if_neg (by omega), if_neg (by omega)]

def primes6 : List Nat := [2, 3, 5, 7, 11, 13]
theorem cop6 : Cop primes6 := ⟨by decide, by unfold primes6; decide⟩
/-- the exponent of a number of the base, summed -/
def esum (p : Nat) : List (Nat × Int) → Int
  | [] => 0
  | (n, k) :: l => (if n = p then k else 0) + esum p l
def tot : List (Nat × Int) → Nat
  | [] => 0
  | (_, k) :: l => k.natAbs + tot l
theorem vb6 : ∀ p ∈ primes6, ∀ n ∈ primes6, vb p n = if n = p then 1 else 0 := by
  unfold vb
  decide
theorem expo6 {p : Nat} (hp : p ∈ primes6) : ∀ {l : List (Nat × Int)}, (∀ x ∈ l, x.1 ∈ primes6) → expo p l = esum p l
  | [], _ => rfl
  | (n, k) :: l, h => by
    rw [expo, esum, expo6 hp fun x hx => h x (List.mem_cons_of_mem _ hx), vb6 p hp n (h _ List.mem_cons_self)]
    by_cases e : n = p <;> simp [e]
theorem esum_le (p : Nat) : ∀ l : List (Nat × Int), (esum p l).natAbs ≤ tot l
  | [] => by simp [esum]
  | (n, k) :: l => by
    have := esum_le p l
    rw [esum, tot]
    split <;> omega
/-- the difference of the sums of the lower bounds -/
def B512 (n : Nat) : Nat × Nat := lg n 512
theorem lg512 : B512 2 = (one512, one512) ∧ B512 3 = (lam512_3, lam512_3 + 1) ∧ B512 5 = (lam512_5, lam512_5 + 1) ∧ B512 7 = (lam512_7, lam512_7 + 1) ∧ B512 11 = (lam512_11, lam512_11 + 1) ∧ B512 13 = (lam512_13, lam512_13 + 1) := by
  unfold B512
  decide +kernel
/-- the difference of the lower sums is a sum of the exponents of the six primes -/
theorem low_diff : ∀ l : List (Nat × Int), (∀ x ∈ l, x.1 ∈ primes6) → ((sumB B512 l).1.1 : Int) - (sumB B512 l).2.1 = one512 * esum 2 l + lam512_3 * esum 3 l + lam512_5 * esum 5 l + lam512_7 * esum 7 l + lam512_11 * esum 11 l + lam512_13 * esum 13 l
  | [], _ => by simp [sumB, esum]
  | (n, k) :: l, h => by
    have ih := low_diff l fun x hx => h x (List.mem_cons_of_mem _ hx)
    have hn := h _ List.mem_cons_self
    have hk : ∀ c : Nat, (((sumB B512 l).1.1 : Int) - (sumB B512 l).2.1) + (c : Int) * k = if 0 ≤ k then (((sumB B512 l).1.1 + c * k.natAbs : Nat) : Int) - (sumB B512 l).2.1 else ((sumB B512 l).1.1 : Int) - (((sumB B512 l).2.1 + c * k.natAbs : Nat) : Int) := by
      intro c
      split
      · rename_i h0
        obtain ⟨j, rfl⟩ := Int.eq_ofNat_of_zero_le h0
        simp only [Int.ofNat_eq_natCast, Int.natAbs_natCast, Int.natCast_add, Int.natCast_mul]
        omega
      · rename_i h0
        obtain ⟨j, rfl⟩ : ∃ j : Nat, k = -(j : Int) := ⟨k.natAbs, by omega⟩
        simp only [Int.natAbs_neg, Int.natAbs_natCast, Int.natCast_add, Int.natCast_mul, Int.mul_neg]
        omega
    have hs : ((sumB B512 ((n, k) :: l)).1.1 : Int) - (sumB B512 ((n, k) :: l)).2.1 = (((sumB B512 l).1.1 : Int) - (sumB B512 l).2.1) + ((B512 n).1 : Int) * k := by
      rw [hk, sumB]
      split <;> simp only []
    rw [hs, ih]
    simp only [esum]
    obtain ⟨b2, b3, b5, b7, b11, b13⟩ := lg512
    simp only [primes6, List.mem_cons, List.not_mem_nil, or_false] at hn
    rcases hn with rfl | rfl | rfl | rfl | rfl | rfl
    · rw [b2]; simp [Int.mul_add]; omega
    · rw [b3]; simp [Int.mul_add]; omega
    · rw [b5]; simp [Int.mul_add]; omega
    · rw [b7]; simp [Int.mul_add]; omega
    · rw [b11]; simp [Int.mul_add]; omega
    · rw [b13]; simp [Int.mul_add]; omega
/-- both bounds are near to each other -/
theorem width : ∀ l : List (Nat × Int), (∀ x ∈ l, x.1 ∈ primes6) → (sumB B512 l).1.2 + (sumB B512 l).2.2 ≤ (sumB B512 l).1.1 + (sumB B512 l).2.1 + tot l ∧ (sumB B512 l).1.1 ≤ (sumB B512 l).1.2 ∧ (sumB B512 l).2.1 ≤ (sumB B512 l).2.2
  | [], _ => by simp [sumB, tot]
  | (n, k) :: l, h => by
    obtain ⟨h1, h2, h3⟩ := width l fun x hx => h x (List.mem_cons_of_mem _ hx)
    have hn := h _ List.mem_cons_self
    have hb : (B512 n).2 ≤ (B512 n).1 + 1 ∧ (B512 n).1 ≤ (B512 n).2 := by
      obtain ⟨b2, b3, b5, b7, b11, b13⟩ := lg512
      simp only [primes6, List.mem_cons, List.not_mem_nil, or_false] at hn
      rcases hn with rfl | rfl | rfl | rfl | rfl | rfl
      · rw [b2]; simp only []; omega
      · rw [b3]; simp only []; omega
      · rw [b5]; simp only []; omega
      · rw [b7]; simp only []; omega
      · rw [b11]; simp only []; omega
      · rw [b13]; simp only []; omega
    have hm1 : (B512 n).2 * k.natAbs ≤ (B512 n).1 * k.natAbs + k.natAbs := by
      have := Nat.mul_le_mul_right k.natAbs hb.1
      rw [Nat.add_mul, Nat.one_mul] at this
      exact this
    have hm2 := Nat.mul_le_mul_right k.natAbs hb.2
    rw [sumB, tot]
    split <;> simp only [] <;> omega
/-- with 512 places the sign is shown, or the product is 1 -/
theorem decided {l : List (Nat × Int)} (h : ∀ x ∈ l, x.1 ∈ primes6) (ht : tot l ≤ 1152921504606846976) (hg : guessG (sumB B512 l) = none) : up l = down l := by
  obtain ⟨w1, w2, w3⟩ := width l h
  have hd := low_diff l h
  unfold guessG at hg
  split at hg
  · cases hg
  · rename_i c1
    split at hg
    · cases hg
    · rename_i c2
      have hs : ((sumB B512 l).1.1 : Int) - (sumB B512 l).2.1 ≤ 1152921504606846976 ∧ -1152921504606846976 ≤ ((sumB B512 l).1.1 : Int) - (sumB B512 l).2.1 := by omega
      rw [hd] at hs
      have hz := lattice512 (esum 2 l) (esum 3 l) (esum 5 l) (esum 7 l) (esum 11 l) (esum 13 l) (Nat.le_trans (esum_le _ _) ht) (Nat.le_trans (esum_le _ _) ht) (Nat.le_trans (esum_le _ _) ht) (Nat.le_trans (esum_le _ _) ht) (Nat.le_trans (esum_le _ _) ht) (by omega)
      rw [← cop6.one_iff (fun x hx => Gen.of (h x hx))]
      intro b hb
      rw [expo6 hb h]
      simp only [primes6, List.mem_cons, List.not_mem_nil, or_false] at hb
      rcases hb with rfl | rfl | rfl | rfl | rfl | rfl
      · exact hz.1
      · exact hz.2.1
      · exact hz.2.2.1
      · exact hz.2.2.2.1
      · exact hz.2.2.2.2.1
      · exact hz.2.2.2.2.2
end Go.Proofs.YtalodfjplegibaaGreatDoor
