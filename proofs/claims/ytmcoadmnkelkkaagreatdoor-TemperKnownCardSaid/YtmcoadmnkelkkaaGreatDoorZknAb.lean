/- A temperament as an argument of a law. (Printed by genrowg.py.) -/
import Derived.Test.YtmcoadmnkelkkaaGreatDoorZknA
import Derived.Lib.SmallJoins
import Derived.Lib.ItoaNum
import Derived.Test.YtmcoadmnkelkkaaGreatDoorRatH
import Derived.Test.YtmcoadmnkelkkaaGreatDoorRatI
import Derived.Deep.RegionLaw
import Derived.Test.YtmcoadmnkelkkaaGreatDoorRefE
import Derived.Test.YtmcoadmnkelkkaaGreatDoorRatG
import Derived.Test.YtmcoadmnkelkkaaGreatDoorRatK
import Derived.Test.YtmcoadmnkelkkaaGreatDoorRefK
import Derived.Test.YtmcoadmnkelkkaaGreatDoorMixG
import Derived.Test.YtmcoadmnkelkkaaGreatDoorMixN
namespace Go.Proofs.YtmcoadmnkelkkaaGreatDoor
set_option linter.unusedSimpArgs false
open Go.ChangeShapes Go.WideShapes Go.ChangeAt Go.RowKit
set_option linter.unusedVariables false
end Go.Proofs.YtmcoadmnkelkkaaGreatDoor
namespace Go.Proofs.YtmcoadmnkelkkaaGreatDoor
open Go.ChangeShapes Go.WideShapes Go.ChangeAt Go.RowKit
set_option linter.unusedVariables false
set_option linter.unusedSimpArgs false
theorem tabK_eq : (Rows.laid_internal_strconv_uint64pow10 : DataW Unit) = Lib.tabData .u64 Lib.pow10Tab := by kernel_rfl
theorem gTabK : Tryz.prog.globalNamed "internal/strconv.uint64pow10" = some 4 := by kernel_rfl
def laidLK : List (String × DataW Unit) := [("math/bits.deBruijn32tab", Rows.laid_math_bits_deBruijn32tab), ("math/bits.deBruijn64tab", Rows.laid_math_bits_deBruijn64tab), ("internal/strconv.uint64pow10", Rows.laid_internal_strconv_uint64pow10), ("quintadena/ratios.primes", Rows.laid_quintadena_ratios_primes)]
theorem laidLK_pr {W : World} (h : laidMetH Tryz.prog laidLK W) : PrT W := by
  have h1 : laidMet Tryz.prog laidLK W := h; have h2 := h1.tail.tail.tail; rw [tabR_eq] at h2
  obtain ⟨t, e, n, hty, ht, he, hce, hct⟩ : ∃ t e n, (Tryz.prog.globals[0]?).map (·.type) = some t ∧ Tryz.prog.underlying t = some (.array n e) ∧ Tryz.prog.underlying e = some (.int .i64) ∧ Tryz.prog.cellsOf e = 1 ∧ Tryz.prog.cellsOf t = n :=
    ⟨73, 2, 6, by kernel_rfl, by kernel_rfl, by kernel_rfl, by kernel_rfl, by kernel_rfl⟩
  exact Lib.tabIs_of_head gPr hty ht he hce hct h2
theorem laidLK_tab {W : World} (h : laidMetH Tryz.prog laidLK W) : Lib.TabIs Tryz.prog W "internal/strconv.uint64pow10" .u64 Lib.pow10Tab := by
  have h1 : laidMet Tryz.prog laidLK W := h; have h2 := h1.tail.tail; rw [tabK_eq] at h2
  obtain ⟨t, e, n, hty, ht, he, hce, hct⟩ : ∃ t e n, (Tryz.prog.globals[4]?).map (·.type) = some t ∧ Tryz.prog.underlying t = some (.array n e) ∧ Tryz.prog.underlying e = some (.int .u64) ∧ Tryz.prog.cellsOf e = 1 ∧ Tryz.prog.cellsOf t = n :=
    ⟨195, 151, 20, by kernel_rfl, by kernel_rfl, by kernel_rfl, by kernel_rfl, by kernel_rfl⟩
  exact Lib.tabIs_of_head gTabK hty ht he hce hct h2
noncomputable def laidWorldK (os : Os) : World := World.laidAll Tryz.prog os laidLK
theorem laid_metK (os : Os) (args : Array Value) : laidMet Tryz.prog laidLK ((laidWorldK os).forCall (fun _ _ => 0) ⟨#[], args, []⟩).memory :=
  laidMet_laidAll args (by kernel_rfl) (by kernel_rfl)
end Go.Proofs.YtmcoadmnkelkkaaGreatDoor
namespace Go.Proofs.YtmcoadmnkelkkaaGreatDoor
set_option linter.unusedSimpArgs false
open Go.RowKit
set_option linter.unusedVariables false
theorem RV.cell_num (r : RV) {i : Nat} (hi : i < 6) : r.cells[i]? = some (.int .i64 (r.num i)) := by
  have h6 : i = 0 ∨ i = 1 ∨ i = 2 ∨ i = 3 ∨ i = 4 ∨ i = 5 := (by omega); rcases h6 with rfl | rfl | rfl | rfl | rfl | rfl <;> rfl
end Go.Proofs.YtmcoadmnkelkkaaGreatDoor
namespace Go.Proofs.YtmcoadmnkelkkaaGreatDoor
set_option linter.unusedSimpArgs false
open Go.RowKit
set_option linter.unusedVariables false
end Go.Proofs.YtmcoadmnkelkkaaGreatDoor
namespace Go.Proofs.YtmcoadmnkelkkaaGreatDoor
set_option linter.unusedSimpArgs false
open Go.RowKit
set_option linter.unusedVariables false
structure Nx (o q : List Nat) (i k n : Nat) : Prop where
  len : q.length + (if i < n then 1 else 0) + (if k < n then 1 else 0) = n
  mem : ∀ p, p ∈ q ↔ ∃ j, j < n ∧ j ≠ i ∧ j ≠ k ∧ o[j]? = some p
theorem Nx.start (o : List Nat) (i k : Nat) : Nx o [] i k 0 := ⟨by simp, fun p => ⟨fun h => by simp at h, fun ⟨j, h, _⟩ => absurd h (Nat.not_lt_zero _)⟩⟩
theorem Nx.skip {o q : List Nat} {i k n : Nat} (h : Nx o q i k n) (hik : i ≠ k) (hn : n = i ∨ n = k) : Nx o q i k (n + 1) := by
  refine ⟨?_, fun p => (h.mem p).trans ⟨fun ⟨j, h1, h2⟩ => ⟨j, by omega, h2⟩, fun ⟨j, h1, h2, h3, h4⟩ => ⟨j, by rcases hn with rfl | rfl <;> omega, h2, h3, h4⟩⟩⟩; have := h.len; rcases hn with rfl | rfl
  · rw [if_neg (Nat.lt_irrefl _)] at this; rw [if_pos (Nat.lt_succ_self _)]
    by_cases h2 : k < n
    · rw [if_pos h2] at this; rw [if_pos (by omega)]; omega
    · rw [if_neg h2] at this; rw [if_neg (by omega)]; omega
  · rw [if_neg (Nat.lt_irrefl n)] at this; rw [if_pos (Nat.lt_succ_self n)]
    by_cases h2 : i < n
    · rw [if_pos h2] at this; rw [if_pos (by omega)]; omega
    · rw [if_neg h2] at this; rw [if_neg (by omega)]; omega
theorem Nx.more {o q : List Nat} {i k n x : Nat} (h : Nx o q i k n) (h1 : n ≠ i) (h2 : n ≠ k) (hx : o[n]? = some x) : Nx o (q ++ [x]) i k (n + 1) := by
  refine ⟨?_, fun p => ?_⟩
  · have := h.len; rw [List.length_append, List.length_singleton]
    have e1 : (if i < n + 1 then 1 else 0) = (if i < n then 1 else 0) := by
      by_cases g : i < n
      · rw [if_pos g, if_pos (by omega)]
      · rw [if_neg g, if_neg (by omega)]
    have e2 : (if k < n + 1 then 1 else 0) = (if k < n then 1 else 0) := by
      by_cases g : k < n
      · rw [if_pos g, if_pos (by omega)]
      · rw [if_neg g, if_neg (by omega)]
    rw [e1, e2]; omega
  · rw [List.mem_append, h.mem p, List.mem_singleton]; constructor
    · rintro (⟨j, g1, g2⟩ | rfl)
      · exact ⟨j, by omega, g2⟩
      · exact ⟨n, by omega, h1, h2, hx⟩
    · rintro ⟨j, g1, g2, g3, g4⟩; rcases Nat.lt_or_ge j n with g | g
      · exact .inl ⟨j, g, g2, g3, g4⟩
      · obtain rfl : j = n := (by omega); rw [hx] at g4; injection g4 with g4
        exact .inr g4.symm
theorem Nx.done {o q : List Nat} {i k g : Nat} (h : Nx o q i k o.length) (hik : k < i) (hi : i < o.length) (h1 : o[i]? = some g) (h2 : o[k]? = some g) : (q ++ [g]).length + 1 = o.length ∧ ∀ p, p ∈ q ++ [g] ↔ p ∈ o := by
  refine ⟨?_, fun p => ?_⟩
  · have := h.len; rw [if_pos hi, if_pos (by omega)] at this; rw [List.length_append, List.length_singleton]; omega
  · rw [List.mem_append, h.mem p, List.mem_singleton]; constructor
    · rintro (⟨j, g1, g2, g3, g4⟩ | rfl)
      · exact List.mem_of_getElem? g4
      · exact List.mem_of_getElem? h1
    · intro hp; obtain ⟨j, hj⟩ := List.mem_iff_getElem?.1 hp
      have hjl : j < o.length := by
        rcases Nat.lt_or_ge j o.length with a | a
        · exact a
        · rw [List.getElem?_eq_none a] at hj; cases hj
      by_cases e1 : j = i
      · subst e1; rw [h1] at hj; injection hj with hj
        exact .inr hj.symm
      · by_cases e2 : j = k
        · subst e2; rw [h2] at hj; injection hj with hj
          exact .inr hj.symm
        · exact .inl ⟨j, hjl, e1, e2, hj⟩
theorem own_base {w : World} {B B' : Nat} {e : TypeId} {size n : Nat} {v : Value} {xs : List Value} (h : w.ownsRow B e size v n xs) (hb : B' ≤ B) : w.ownsRow B' e size v n xs := by
  refine ⟨h.1, ?_⟩; rcases h.2 with h0 | ⟨g, cap, cur, e1, hg, h1⟩
  · exact .inl h0
  · exact .inr ⟨g, cap, cur, e1, Nat.le_trans hb hg, h1⟩
end Go.Proofs.YtmcoadmnkelkkaaGreatDoor
namespace Go.Proofs.YtmcoadmnkelkkaaGreatDoor
set_option linter.unusedSimpArgs false
open Go.RowKit
set_option linter.unusedVariables false
end Go.Proofs.YtmcoadmnkelkkaaGreatDoor
namespace Go.Proofs.YtmcoadmnkelkkaaGreatDoor
set_option linter.unusedSimpArgs false
open Go.RowKit
set_option linter.unusedVariables false
def fifth : RV := ⟨-1, 1, 0, 0, 0, 0, 1⟩
attribute [local irreducible] FloorRes
end Go.Proofs.YtmcoadmnkelkkaaGreatDoor
namespace Go.Proofs.YtmcoadmnkelkkaaGreatDoor
set_option linter.unusedSimpArgs false
open Go.RowKit
set_option linter.unusedVariables false
end Go.Proofs.YtmcoadmnkelkkaaGreatDoor
namespace Go.Proofs.YtmcoadmnkelkkaaGreatDoor
set_option linter.unusedSimpArgs false
open Go.RowKit
set_option linter.unusedVariables false
end Go.Proofs.YtmcoadmnkelkkaaGreatDoor
namespace Go.Proofs.YtmcoadmnkelkkaaGreatDoor
set_option linter.unusedSimpArgs false
open Go.RowKit
set_option linter.unusedVariables false
theorem TR.reads {w : World} {A : Option Addr} {n : Nat} {l : List (Nat × Int)} (h : TR w A n l) : Reads w w.heap.size 2 A n (l.flatMap fun x => [.int .i64 (x.1 : Int), .int .i64 x.2]) := h.2
theorem TR.of_own {w : World} {base : Nat} {e : TypeId} {v : Value} {n : Nat} {l : List (Nat × Int)} (h : w.ownsRow base e 2 v n (l.flatMap fun x => [.int .i64 (x.1 : Int), .int .i64 x.2])) (hn : l.length = n) : ∃ A c, v = .slice A n c ∧ TR w A n l := by
  have h' := h; rcases h.2 with ⟨rfl, h0⟩ | ⟨g, cap, cur, rfl, _, _, h1, h2, _⟩
  · rw [h0] at h' hn; exact ⟨none, 0, by rw [h0], by rw [h0]; exact ⟨hn, Reads.of_own h'⟩⟩
  · exact ⟨_, cap, rfl, hn, Reads.of_own h⟩
end Go.Proofs.YtmcoadmnkelkkaaGreatDoor
namespace Go.Proofs.YtmcoadmnkelkkaaGreatDoor
set_option linter.unusedSimpArgs false
open Go.RowKit
set_option linter.unusedVariables false
end Go.Proofs.YtmcoadmnkelkkaaGreatDoor
namespace Go.Proofs.YtmcoadmnkelkkaaGreatDoor
set_option linter.unusedSimpArgs false
open Go.RowKit
set_option linter.unusedVariables false
theorem scaled_snoc (l : List (Nat × Int)) (s : Int) (n : Nat) (k : Int) : scaled (l ++ [(n, k)]) s = scaled l s ++ [(n, k * s)] := by unfold scaled; rw [List.map_append]; rfl
end Go.Proofs.YtmcoadmnkelkkaaGreatDoor
