/- The reference of chapter 04: order, sign: of powers of six primes. The reference of chapter 04: valid, exponent, moved. The reference of chapter 04: moved. The reference of chapter 04: Floor. -/
import Derived.Test.YtalodfjplegibaaGreatDoorRefK
import Derived.Test.YtalodfjplegibaaGreatDoorRefO
import Derived.Test.YtalodfjplegibaaGreatDoorMixG
import Derived.Test.YtalodfjplegibaaGreatDoorMixN
import Derived.Test.YtalodfjplegibaaGreatDoorRatN
import Derived.Deep.RegionLaw
namespace Go.Proofs.YtalodfjplegibaaGreatDoor
set_option linter.unusedSimpArgs false
open Go.RowKit
set_option linter.unusedVariables false

/-- what the bounds show: 0: nothing -/
def ordS (g : (Nat × Nat) × (Nat × Nat)) : Int := if g.2.2 < g.1.1 then 1 else if g.1.2 < g.2.1 then -1 else 0
theorem cmpN_gt0 {a b : Nat} : (0 < cmpN a b) ↔ b < a := by
  rcases Nat.lt_trichotomy a b with h | rfl | h
  · rw [cmpN_lt h]; omega
  · rw [cmpN_eq]; omega
  · rw [cmpN_gt h]; omega
theorem bdr6 {n P : Nat} (h : n ∈ primes6) : Bd n P (lgr n P) := by
  have hb : 0 < n ∧ n < 2 ^ 64 ∧ Lib.bitLen n - 1 ≤ 3 := by
    simp only [primes6, List.mem_cons, List.not_mem_nil, or_false] at h
    rcases h with rfl | rfl | rfl | rfl | rfl | rfl <;> exact ⟨by decide, by decide, by decide +kernel⟩
  exact lgr_bd hb.1 hb.2.1 (by omega)
theorem ord_sound {l : List (Nat × Int)} (P : Nat) (hs : ∀ s, guessG (sumB (fun n => lgr n P) l) = some s → s = sgn l) : (ordS (sumB (fun n => lgr n P) l) ≠ 0 → ordS (sumB (fun n => lgr n P) l) = sgn l) ∧ (ordS (sumB (fun n => lgr n P) l) = 0 → guessG (sumB (fun n => lgr n P) l) = none) := by
  generalize sumB (fun n => lgr n P) l = g at *
  unfold ordS
  unfold guessG at hs ⊢
  split
  · rename_i h1
    rw [if_pos h1] at hs
    exact ⟨fun _ => hs 1 rfl, fun h => by cases h⟩
  · rename_i h1
    rw [if_neg h1] at hs
    split
    · rename_i h2
      rw [if_pos h2] at hs
      exact ⟨fun _ => hs (-1) rfl, fun h => by cases h⟩
    · rename_i h2
      exact ⟨fun h => absurd rfl h, fun _ => rfl⟩
end Go.Proofs.YtalodfjplegibaaGreatDoor
namespace Go.Proofs.YtalodfjplegibaaGreatDoor
set_option linter.unusedSimpArgs false
open Go.RowKit
set_option linter.unusedVariables false

theorem TR.reads {w : World} {A : Option Addr} {n : Nat} {l : List (Nat × Int)} (h : TR w A n l) : Reads w w.heap.size 2 A n (l.flatMap fun x => [.int .i64 (x.1 : Int), .int .i64 x.2]) := h.2
theorem flat_one (l : List (Nat × Int)) : ∀ u ∈ (l.flatMap fun x => [Value.int .i64 (x.1 : Int), Value.int .i64 x.2]), u.oneCell' = true := by
  intro u hu
  obtain ⟨x, _, hx⟩ := List.mem_flatMap.1 hu
  simp only [List.mem_cons, List.not_mem_nil, or_false] at hx
  rcases hx with rfl | rfl <;> rfl
theorem TR.of_own {w : World} {base : Nat} {e : TypeId} {v : Value} {n : Nat} {l : List (Nat × Int)} (h : w.ownsRow base e 2 v n (l.flatMap fun x => [.int .i64 (x.1 : Int), .int .i64 x.2])) (hn : l.length = n) : ∃ A c, v = .slice A n c ∧ TR w A n l := by
  have h' := h
  rcases h.2 with ⟨rfl, h0⟩ | ⟨g, cap, cur, rfl, _, _, h1, h2, _⟩
  · rw [h0] at h' hn
    exact ⟨none, 0, by rw [h0], by rw [h0]; exact ⟨hn, Reads.of_own h'⟩⟩
  · exact ⟨_, cap, rfl, hn, Reads.of_own h⟩
theorem reads_two (w : World) (a b : Int) : Reads (w.alloc (.cells #[.int .i64 a, .int .i64 b] 35)) (w.alloc (.cells #[.int .i64 a, .int .i64 b] 35)).heap.size 2 (some ⟨w.heap.size, 0, none⟩) 1 [.int .i64 a, .int .i64 b] := by
  refine ⟨rfl, fun _ => ⟨_, rfl, by simp, fun j u hj => ?_⟩⟩
  have hb := Blk.new w 35 #[.int .i64 a, .int .i64 b]
  have e : (⟨w.heap.size, 0, none⟩ : Addr).add j = ⟨w.heap.size, j, none⟩ := by
    unfold Addr.add
    by_cases h : j = 0
    · subst h; simp
    · simp [h]
  rw [e, hb.cell]
  simpa using hj
end Go.Proofs.YtalodfjplegibaaGreatDoor
namespace Go.Proofs.YtalodfjplegibaaGreatDoor
set_option linter.unusedSimpArgs false
open Go.RowKit
set_option linter.unusedVariables false

end Go.Proofs.YtalodfjplegibaaGreatDoor
namespace Go.Proofs.YtalodfjplegibaaGreatDoor
set_option linter.unusedSimpArgs false
open Go.RowKit
set_option linter.unusedVariables false

theorem scaled_snoc (l : List (Nat × Int)) (s : Int) (n : Nat) (k : Int) : scaled (l ++ [(n, k)]) s = scaled l s ++ [(n, k * s)] := by unfold scaled; rw [List.map_append]; rfl
theorem flat_snoc2 (l : List (Nat × Int)) (n : Nat) (k : Int) : ((l ++ [(n, k)]).flatMap fun x => [Value.int .i64 (x.1 : Int), Value.int .i64 x.2]) = (l.flatMap fun x => [Value.int .i64 (x.1 : Int), Value.int .i64 x.2]) ++ [.int .i64 (n : Int), .int .i64 k] := by rw [List.flatMap_append]; rfl
theorem lgr_two (P : Nat) : lgr 2 P = (2 ^ P, 2 ^ P) := by
  have h : Go.Lib.bitLen 2 - 1 = 1 := by decide +kernel
  unfold lgr
  rw [h]
  simp
/-- the bounds of a list with a power of 2 behind it -/
theorem sumB_two (l : List (Nat × Int)) (x y : Int) (h : y = -x) : sumB (fun n => lgr n 60) (l ++ [(2, x)]) = (((sumB (fun n => lgr n 60) l).1.1 + x.toNat * 2 ^ 60, (sumB (fun n => lgr n 60) l).1.2 + x.toNat * 2 ^ 60), ((sumB (fun n => lgr n 60) l).2.1 + y.toNat * 2 ^ 60, (sumB (fun n => lgr n 60) l).2.2 + y.toNat * 2 ^ 60)) := by
  rw [sumB_snoc, lgr_two]
  simp only []
  subst h
  split
  · rename_i h0
    rw [show (-x).toNat = 0 by omega, show x.toNat = x.natAbs by omega, Nat.zero_mul, Nat.add_zero, Nat.add_zero, Nat.mul_comm]
  · rename_i h0
    rw [show (-x).toNat = x.natAbs by omega, show x.toNat = 0 by omega, Nat.zero_mul, Nat.add_zero, Nat.add_zero, Nat.mul_comm]
theorem half_between {a b : Int} (h : 1 < b - a) : a < (a + b).tdiv 2 ∧ (a + b).tdiv 2 < b := by
  rcases Int.lt_or_le (a + b) 0 with h0 | h0
  · have e : (a + b).tdiv 2 = -((-(a + b)) / 2) := by
      rw [show a + b = -(-(a + b)) by omega, Int.neg_tdiv, Int.tdiv_eq_ediv_of_nonneg (by omega)]
      simp
    rw [e]; omega
  · rw [Int.tdiv_eq_ediv_of_nonneg h0]; omega
end Go.Proofs.YtalodfjplegibaaGreatDoor
