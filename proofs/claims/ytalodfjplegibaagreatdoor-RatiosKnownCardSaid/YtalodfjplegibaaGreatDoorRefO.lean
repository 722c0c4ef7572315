/- The reference of chapter 04: base, one: of powers of six primes. The reference of chapter 04: one: of powers of six primes. -/
import Derived.Test.YtalodfjplegibaaGreatDoorRefE
import Derived.Test.YtalodfjplegibaaGreatDoorRatO
import Derived.Test.YtalodfjplegibaaGreatDoorRatG
namespace Go.Proofs.YtalodfjplegibaaGreatDoor
set_option linter.unusedSimpArgs false
open Go.RowKit
set_option linter.unusedVariables false

theorem p6_bounds {p : Nat} (h : p ∈ primes6) : 2 ≤ p ∧ p ≤ 13 := by
  simp only [primes6, List.mem_cons, List.not_mem_nil, or_false] at h
  omega
theorem p6_gcd : ∀ p ∈ primes6, ∀ q ∈ primes6, Nat.gcd p q = if p = q then p else 1 := by
  unfold primes6
  decide
/-- the next list under way: without two places -/
structure Nx (o q : List Nat) (i k n : Nat) : Prop where
  len : q.length + (if i < n then 1 else 0) + (if k < n then 1 else 0) = n
  mem : ∀ p, p ∈ q ↔ ∃ j, j < n ∧ j ≠ i ∧ j ≠ k ∧ o[j]? = some p
theorem Nx.start (o : List Nat) (i k : Nat) : Nx o [] i k 0 := ⟨by simp, fun p => ⟨fun h => by simp at h, fun ⟨j, h, _⟩ => absurd h (Nat.not_lt_zero _)⟩⟩
theorem Nx.skip {o q : List Nat} {i k n : Nat} (h : Nx o q i k n) (hik : i ≠ k) (hn : n = i ∨ n = k) : Nx o q i k (n + 1) := by
  refine ⟨?_, fun p => (h.mem p).trans ⟨fun ⟨j, h1, h2⟩ => ⟨j, by omega, h2⟩, fun ⟨j, h1, h2, h3, h4⟩ => ⟨j, by rcases hn with rfl | rfl <;> omega, h2, h3, h4⟩⟩⟩
  have := h.len
  rcases hn with rfl | rfl
  · rw [if_neg (Nat.lt_irrefl _)] at this
    rw [if_pos (Nat.lt_succ_self _)]
    by_cases h2 : k < n
    · rw [if_pos h2] at this
      rw [if_pos (by omega)]; omega
    · rw [if_neg h2] at this
      rw [if_neg (by omega)]; omega
  · rw [if_neg (Nat.lt_irrefl n)] at this
    rw [if_pos (Nat.lt_succ_self n)]
    by_cases h2 : i < n
    · rw [if_pos h2] at this
      rw [if_pos (by omega)]; omega
    · rw [if_neg h2] at this
      rw [if_neg (by omega)]; omega
theorem Nx.more {o q : List Nat} {i k n x : Nat} (h : Nx o q i k n) (h1 : n ≠ i) (h2 : n ≠ k) (hx : o[n]? = some x) : Nx o (q ++ [x]) i k (n + 1) := by
  refine ⟨?_, fun p => ?_⟩
  · have := h.len
    rw [List.length_append, List.length_singleton]
    have e1 : (if i < n + 1 then 1 else 0) = (if i < n then 1 else 0) := by
      by_cases g : i < n
      · rw [if_pos g, if_pos (by omega)]
      · rw [if_neg g, if_neg (by omega)]
    have e2 : (if k < n + 1 then 1 else 0) = (if k < n then 1 else 0) := by
      by_cases g : k < n
      · rw [if_pos g, if_pos (by omega)]
      · rw [if_neg g, if_neg (by omega)]
    rw [e1, e2]; omega
  · rw [List.mem_append, h.mem p, List.mem_singleton]
    constructor
    · rintro (⟨j, g1, g2⟩ | rfl)
      · exact ⟨j, by omega, g2⟩
      · exact ⟨n, by omega, h1, h2, hx⟩
    · rintro ⟨j, g1, g2, g3, g4⟩
      rcases Nat.lt_or_ge j n with g | g
      · exact .inl ⟨j, g, g2, g3, g4⟩
      · obtain rfl : j = n := by omega
        rw [hx] at g4
        injection g4 with g4
        exact .inr g4.symm
theorem Nx.done {o q : List Nat} {i k g : Nat} (h : Nx o q i k o.length) (hik : k < i) (hi : i < o.length) (h1 : o[i]? = some g) (h2 : o[k]? = some g) : (q ++ [g]).length + 1 = o.length ∧ ∀ p, p ∈ q ++ [g] ↔ p ∈ o := by
  refine ⟨?_, fun p => ?_⟩
  · have := h.len
    rw [if_pos hi, if_pos (by omega)] at this
    rw [List.length_append, List.length_singleton]; omega
  · rw [List.mem_append, h.mem p, List.mem_singleton]
    constructor
    · rintro (⟨j, g1, g2, g3, g4⟩ | rfl)
      · exact List.mem_of_getElem? g4
      · exact List.mem_of_getElem? h1
    · intro hp
      obtain ⟨j, hj⟩ := List.mem_iff_getElem?.1 hp
      have hjl : j < o.length := by
        rcases Nat.lt_or_ge j o.length with a | a
        · exact a
        · rw [List.getElem?_eq_none a] at hj; cases hj
      by_cases e1 : j = i
      · subst e1
        rw [h1] at hj
        injection hj with hj
        exact .inr hj.symm
      · by_cases e2 : j = k
        · subst e2
          rw [h2] at hj
          injection hj with hj
          exact .inr hj.symm
        · exact .inl ⟨j, hjl, e1, e2, hj⟩
/-- numbers of the list, all of them primes, none twice among the first i -/
structure Bs (l : List (Nat × Int)) (o : List Nat) (i : Nat) : Prop where
  mem : ∀ p, p ∈ o ↔ ∃ x ∈ l, x.1 = p
  dist : ∀ a b x, a < b → b < i → o[a]? = some x → o[b]? ≠ some x
def slen (v : Value) : Nat := match v with | .slice _ k _ => k | _ => 0
theorem slen_own {w : World} {B : Nat} {e : TypeId} {size n : Nat} {v : Value} {xs : List Value} (h : w.ownsRow B e size v n xs) : slen v = n := by
  rcases h.2 with ⟨rfl, h0⟩ | ⟨g, cap, cur, rfl, _⟩
  · exact h0.symm
  · rfl
theorem own_base {w : World} {B B' : Nat} {e : TypeId} {size n : Nat} {v : Value} {xs : List Value} (h : w.ownsRow B e size v n xs) (hb : B' ≤ B) : w.ownsRow B' e size v n xs := by
  refine ⟨h.1, ?_⟩
  rcases h.2 with h0 | ⟨g, cap, cur, e1, hg, h1⟩
  · exact .inl h0
  · exact .inr ⟨g, cap, cur, e1, Nat.le_trans hb hg, h1⟩
theorem own_drewN {w : World} {B : Nat} {e : TypeId} {size n : Nat} {v : Value} {xs : List Value} (h : w.ownsRow B e size v n xs) (k : Nat) : (w.drewN k).ownsRow B e size v n xs := h
theorem V_own {w : World} {base : Nat} {e : TypeId} {v : Value} {n : Nat} {o : List Nat} (h : w.ownsRow base e 1 v n (o.map cv)) : ∃ A c, v = .slice A n c ∧ n ≤ c ∧ V w A n o := by
  have h' := h
  rcases h.2 with ⟨rfl, h0⟩ | ⟨g, cap, cur, rfl, _, _, h1, h2, _⟩
  · rw [h0] at h'
    exact ⟨none, 0, by rw [h0], by omega, by rw [h0]; exact V.of_own h'⟩
  · exact ⟨_, cap, rfl, h1, V.of_own h⟩
end Go.Proofs.YtalodfjplegibaaGreatDoor
namespace Go.Proofs.YtalodfjplegibaaGreatDoor
set_option linter.unusedSimpArgs false
open Go.RowKit
set_option linter.unusedVariables false

theorem esum_snoc (p n : Nat) (k : Int) : ∀ l : List (Nat × Int), esum p (l ++ [(n, k)]) = esum p l + if n = p then k else 0
  | [] => by simp [esum]
  | (m, j) :: l => by rw [List.cons_append, esum, esum_snoc p n k l, esum]; omega
theorem esum_none {p : Nat} : ∀ {l : List (Nat × Int)}, (∀ x ∈ l, x.1 ≠ p) → esum p l = 0
  | [], _ => rfl
  | (n, k) :: l, h => by
    rw [esum, esum_none fun x hx => h x (List.mem_cons_of_mem _ hx), if_neg (h _ List.mem_cons_self)]; rfl
theorem one_iff6 {l : List (Nat × Int)} (h : ∀ x ∈ l, x.1 ∈ primes6) : (∀ p ∈ primes6, esum p l = 0) ↔ up l = down l := by
  rw [← cop6.one_iff (fun x hx => Gen.of (h x hx))]
  exact ⟨fun a b hb => by rw [expo6 hb h]; exact a b hb, fun a b hb => by rw [← expo6 hb h]; exact a b hb⟩
theorem p6_mod : ∀ p ∈ primes6, ∀ q ∈ primes6, p ≠ q → q % p ≠ 0 := by
  unfold primes6
  decide
end Go.Proofs.YtalodfjplegibaaGreatDoor
