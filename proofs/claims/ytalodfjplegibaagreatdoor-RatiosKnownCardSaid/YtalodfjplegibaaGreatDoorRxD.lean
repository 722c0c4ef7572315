/- The reference of ratios: Digits. -/
import Derived.Test.YtalodfjplegibaaGreatDoorRxA
import Derived.Laws.Strings
namespace Go.Proofs.YtalodfjplegibaaGreatDoor
set_option linter.unusedSimpArgs false
open Go.RowKit
set_option linter.unusedVariables false

/-- a string out of bytes -/
def xB (l : List UInt8) : ByteArray := ⟨l.toArray⟩
theorem xB_list (l : List UInt8) : (xB l).data.toList = l := by simp [xB]
theorem xB_app (a b : List UInt8) : xB (a ++ b) = xB a ++ xB b := by apply ByteArray.ext; simp [xB]
theorem xB_size (l : List UInt8) : (xB l).size = l.length := by simp [xB, ByteArray.size]
def xD (d : Nat) : ByteArray := ⟨#[UInt8.ofNat (48 + d)]⟩
theorem xten_at {d : Nat} (h : d < 10) : (⟨#[48, 49, 50, 51, 52, 53, 54, 55, 56, 57]⟩ : ByteArray).extract d (d + 1) = xD d := by
  rcases (show d = 0 ∨ d = 1 ∨ d = 2 ∨ d = 3 ∨ d = 4 ∨ d = 5 ∨ d = 6 ∨ d = 7 ∨ d = 8 ∨ d = 9 by omega) with rfl | rfl | rfl | rfl | rfl | rfl | rfl | rfl | rfl | rfl <;> decide +kernel
theorem xit_nat (u : Nat) : Lib.itoa (u : Int) = Lib.decDigits u := by
  unfold Lib.itoa
  rw [if_neg (by omega)]
  simp
theorem xit_one {u : Nat} (h : u < 10) : xB (Lib.itoa (u : Int)) = xD u := by
  unfold xD xB
  rw [xit_nat, Lib.decDigits, dif_pos h]
theorem xit_two {u : Nat} (h : 10 ≤ u) : xB (Lib.itoa (u : Int)) = xB (Lib.itoa ((u / 10 : Nat) : Int)) ++ xD (u % 10) := by
  unfold xD
  rw [xit_nat, xit_nat, Lib.decDigits, dif_neg (by omega), xB_app]
  rfl
theorem xit_neg {u : Nat} (h : 1 ≤ u) : xB (Lib.itoa (-(u : Int))) = ⟨#[45]⟩ ++ xB (Lib.itoa (u : Int)) := by
  rw [xit_nat]
  unfold Lib.itoa
  rw [if_pos (by omega)]
  have e : (-(u : Int)).natAbs = u := by omega
  rw [e]
  have e2 : (45 :: Lib.decDigits u) = [45] ++ Lib.decDigits u := rfl
  rw [e2, xB_app]
  rfl
theorem ten9 : 10 ^ 9 = 1000000000 := by decide
theorem xit_len {z : Int} (h : z.natAbs < 1000000000) : (xB (Lib.itoa z)).size ≤ 10 := by
  rw [xB_size]
  exact xitoa_len (k := 9) (by decide) (by rw [ten9]; exact h)
set_option maxHeartbeats 800000 in
set_option maxRecDepth 100000 in
theorem xdig1 (u : Nat) (hu : u < 10) (w : World) : Calls Tryz.prog 24 #[.int .i64 (u : Int)] w fun e w' => e = .returned (.string (xB (Lib.itoa (u : Int)))) ∧ Below w.heap.size w w' := by
  have HB : Sl (Below w.heap.size w w) := ⟨Below.refl _ _⟩
  have hneg : decide ((u : Int) < 0) = false := decide_eq_false (by omega)
  obtain ⟨d, hd⟩ : ∃ d, u % 10 = d := ⟨_, rfl⟩
  have hd10 : d < 10 := by omega
  have hr : Int.tmod (u : Int) 10 = (d : Int) := by rw [Int.tmod_eq_emod_of_nonneg (by omega)]; omega
  have hx := xten_at hd10
  have hlt : decide ((u : Int) < 10) = true := decide_eq_true (by omega)
  have HX : Sl (xB (Lib.itoa (u : Int)) = xD d) := ⟨by rw [xit_one hu]; congr 1; omega⟩
  rw [HX.out]
  clear hu hd
  go_enter Tryz.func24, Tryz.ntmps24
  go_wp2_with fail
  go_ret
  exact ⟨rfl, HB.out⟩
set_option maxHeartbeats 800000 in
set_option maxRecDepth 100000 in
theorem xdigN : ∀ (k u : Nat), u < 10 ^ k → u < 1000000000 → ∀ w : World, Calls Tryz.prog 24 #[.int .i64 (u : Int)] w fun e w' => e = .returned (.string (xB (Lib.itoa (u : Int)))) ∧ Below w.heap.size w w'
  | 0, u, hu, _, w => xdig1 u (by omega) w
  | k+1, u, hu, h9, w => by
    by_cases h10 : u < 10
    · exact xdig1 u h10 w
    have HB : Sl (Below w.heap.size w w) := ⟨Below.refl _ _⟩
    have hneg : decide ((u : Int) < 0) = false := decide_eq_false (by omega)
    obtain ⟨d, hd⟩ : ∃ d, u % 10 = d := ⟨_, rfl⟩
    have hd10 : d < 10 := by omega
    have hr : Int.tmod (u : Int) 10 = (d : Int) := by rw [Int.tmod_eq_emod_of_nonneg (by omega)]; omega
    have hx := xten_at hd10
    have hlt : decide ((u : Int) < 10) = false := decide_eq_false (by omega)
    have hq : Int.tdiv (u : Int) 10 = ((u / 10 : Nat) : Int) := by rw [Int.tdiv_eq_ediv_of_nonneg (by omega)]; omega
    have HX : Sl (xB (Lib.itoa (u : Int)) = xB (Lib.itoa ((u / 10 : Nat) : Int)) ++ xD d) := ⟨by rw [xit_two (by omega), hd]⟩
    rw [HX.out]
    have IH : Sl _ := ⟨xdigN k (u / 10) (by rw [Nat.pow_succ] at hu; omega) (by omega)⟩
    have HQ : Sl (u / 10 < 1000000000) := ⟨by omega⟩
    have hl1 := xit_len (z := ((u / 10 : Nat) : Int)) (by omega)
    clear hu hd h10 h9
    generalize u / 10 = q at *
    have hq0 : (0 : Int) ≤ (q : Int) := by omega
    have hq1 : (q : Int) < 1000000000 := by have := HQ.out; omega
    have hl2 : (xD d).size ≤ 1 := Nat.le_refl _
    go_enter Tryz.func24, Tryz.ntmps24
    go_wp2_with fail
    with_reducible refine (IH.out w).mono ?_; rintro e w1 ⟨rfl, hb⟩
    replace HB : Sl (Below w.heap.size w w1) := ⟨hb⟩
    clear hb
    go_wp2_with fail
    go_ret
    exact ⟨rfl, HB.out⟩
set_option maxHeartbeats 800000 in
set_option maxRecDepth 100000 in
/-- Digits -/
theorem xdig_any (z : Int) (h1 : -1000000000 < z) (h2 : z < 1000000000) (w : World) : Calls Tryz.prog 24 #[.int .i64 z] w fun e w' => e = .returned (.string (xB (Lib.itoa z))) ∧ Below w.heap.size w w' := by
  by_cases hz : 0 ≤ z
  · obtain ⟨u, rfl⟩ := Int.eq_ofNat_of_zero_le hz
    exact xdigN 9 u (by rw [ten9]; omega) (by omega) w
  have HB : Sl (Below w.heap.size w w) := ⟨Below.refl _ _⟩
  have hneg : decide (z < 0) = true := decide_eq_true (by omega)
  obtain ⟨u, hu⟩ := Int.eq_ofNat_of_zero_le (show 0 ≤ -z by omega)
  have hz2 : -z = (u : Int) := hu
  have HX : Sl (xB (Lib.itoa z) = ⟨#[45]⟩ ++ xB (Lib.itoa (u : Int))) := ⟨by
    have e : z = -(u : Int) := by omega
    rw [e]; exact xit_neg (by omega)⟩
  have HU : Sl (u < 1000000000) := ⟨by omega⟩
  rw [HX.out]
  clear hu hz
  have hu0 : (0 : Int) ≤ (u : Int) := by omega
  have hu1 : (u : Int) < 1000000000 := by have := HU.out; omega
  have hl1 := xit_len (z := (u : Int)) (by have := HU.out; omega)
  have HD : Sl _ := ⟨fun (v : Nat) (h : v < 1000000000) => xdigN 9 v (by rw [ten9]; omega) h⟩
  go_enter Tryz.func24, Tryz.ntmps24
  go_wp2_with fail
  with_reducible refine (HD.out u HU.out w).mono ?_; rintro e w1 ⟨rfl, hb⟩
  replace HB : Sl (Below w.heap.size w w1) := ⟨hb⟩
  clear hb
  go_wp2_with fail
  go_ret
  exact ⟨rfl, HB.out⟩
end Go.Proofs.YtalodfjplegibaaGreatDoor
