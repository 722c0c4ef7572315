/- Plain law: the rows of a mixture. No program in sight. -/
import Derived.Test.YtbaojmfkjpnfhaaGreatDoorNatL
namespace Go.Proofs.YtbaojmfkjpnfhaaGreatDoor
set_option linter.unusedSimpArgs false
set_option linter.unusedVariables false

/-- a mixture's breaks: how many, the first key and the ranks of each -/
structure Mx where
  a : Int
  b : Int
  n : Nat
  fr : Nat → Int
  rk : Nat → List Int
/-- the last key of a break -/
def Mx.last (x : Mx) (i : Nat) : Int := if i + 1 < x.n then x.fr (i + 1) - 1 else x.b
/-- the breaks are in order -/
structure Mx.Ord (x : Mx) : Prop where
  pos : 0 < x.n
  first : x.fr 0 = x.a
  up : ∀ i, i + 1 < x.n → x.fr i < x.fr (i + 1)
  le : ∀ i, i < x.n → x.fr i ≤ x.b
  ne : ∀ i, i < x.n → x.rk i ≠ []
/-- the break that counts for a key: the last one that begins at it or below -/
def Mx.at (x : Mx) (key : Int) : Nat → Nat
  | 0 => 0
  | i+1 => if x.fr i ≤ key then i else Mx.at x key i
theorem Mx.Ord.mono {x : Mx} (h : x.Ord) : ∀ {j i : Nat}, i ≤ j → j < x.n → x.fr i ≤ x.fr j
  | 0, i, hi, _ => by
    have : i = 0 := by omega
    subst this; exact Int.le_refl _
  | j+1, i, hi, hj => by
    rcases Nat.lt_or_ge i (j + 1) with h1 | h1
    · have := h.mono (j := j) (i := i) (by omega) (by omega)
      have := h.up j hj
      omega
    · have : i = j + 1 := by omega
      subst this; exact Int.le_refl _
theorem Mx.Ord.last_ge {x : Mx} (h : x.Ord) {i : Nat} (hi : i < x.n) : x.fr i ≤ x.last i := by
  unfold Mx.last
  split
  · rename_i h1
    have := h.up i h1; omega
  · exact h.le i hi
theorem Mx.Ord.last_le {x : Mx} (h : x.Ord) {i : Nat} (hi : i < x.n) : x.last i ≤ x.b := by
  unfold Mx.last
  split
  · rename_i h1
    have := h.le (i + 1) h1; omega
  · exact Int.le_refl _
theorem Mx.at_spec {x : Mx} (key : Int) : ∀ k, 0 < k → x.fr 0 ≤ key → x.at key k < k ∧ x.fr (x.at key k) ≤ key ∧ ∀ j, x.at key k < j → j < k → key < x.fr j
  | 0, h, _ => absurd h (by decide)
  | k+1, _, h0 => by
    unfold Mx.at
    split
    · rename_i h1
      exact ⟨Nat.lt_succ_self _, h1, fun j h2 h3 => by omega⟩
    · rename_i h1
      rcases Nat.eq_zero_or_pos k with hk | hk
      · subst hk; exact absurd h0 h1
      · obtain ⟨g1, g2, g3⟩ := Mx.at_spec key k hk h0
        refine ⟨by omega, g2, fun j h2 h3 => ?_⟩
        rcases Nat.lt_or_ge j k with h4 | h4
        · exact g3 j h2 h4
        · have : j = k := by omega
          subst this; omega
/-- a key lies in the break that counts for it -/
theorem Mx.Ord.at_in {x : Mx} (h : x.Ord) {key : Int} (h1 : x.a ≤ key) (h2 : key ≤ x.b) : x.at key x.n < x.n ∧ x.fr (x.at key x.n) ≤ key ∧ key ≤ x.last (x.at key x.n) := by
  obtain ⟨g1, g2, g3⟩ := Mx.at_spec (x := x) key x.n h.pos (by rw [h.first]; exact h1)
  refine ⟨g1, g2, ?_⟩
  unfold Mx.last
  split
  · rename_i h3
    have := g3 (x.at key x.n + 1) (Nat.lt_succ_self _) h3
    omega
  · exact h2
/-- a key of a break has it for the one that counts -/
theorem Mx.Ord.at_of {x : Mx} (h : x.Ord) {key : Int} {i : Nat} (hi : i < x.n) (h1 : x.fr i ≤ key) (h2 : key ≤ x.last i) : x.at key x.n = i := by
  have h0 : x.fr 0 ≤ key := Int.le_trans (h.mono (Nat.zero_le i) hi) h1
  obtain ⟨g1, g2, g3⟩ := Mx.at_spec (x := x) key x.n h.pos h0
  rcases Nat.lt_trichotomy (x.at key x.n) i with hl | hl | hl
  · have := g3 i hl hi; omega
  · exact hl
  · exfalso
    unfold Mx.last at h2
    rw [if_pos (by omega)] at h2
    have := h.mono (i := i + 1) (j := x.at key x.n) hl g1
    omega
/-- what the program asks of each break, and the document of each key, is the same -/
theorem Mx.Ord.sound {x : Mx} (h : x.Ord) (lo hi : List Int → Int) (M : Int) :
    (∃ i, i < x.n ∧ (x.fr i + lo (x.rk i) < 0 ∨ M < x.last i + hi (x.rk i))) ↔ (∃ key, x.a ≤ key ∧ key ≤ x.b ∧ (key + lo (x.rk (x.at key x.n)) < 0 ∨ M < key + hi (x.rk (x.at key x.n)))) := by
  constructor
  · rintro ⟨i, hi', h1 | h1⟩
    · have e := h.at_of hi' (Int.le_refl _) (h.last_ge hi')
      exact ⟨x.fr i, by rw [← h.first]; exact h.mono (Nat.zero_le i) hi', h.le i hi', .inl (by rw [e]; exact h1)⟩
    · have e := h.at_of hi' (h.last_ge hi') (Int.le_refl _)
      refine ⟨x.last i, ?_, h.last_le hi', .inr (by rw [e]; exact h1)⟩
      have := h.last_ge hi'
      have := h.mono (Nat.zero_le i) hi'
      rw [h.first] at this; omega
  · rintro ⟨key, h1, h2, h3⟩
    obtain ⟨g1, g2, g3⟩ := h.at_in h1 h2
    refine ⟨_, g1, ?_⟩
    rcases h3 with h3 | h3
    · left; omega
    · right; omega
end Go.Proofs.YtbaojmfkjpnfhaaGreatDoor
