/- Package ratios: values of ratios; Check. -/
import Derived.Test.YtalodfjplegibaaGreatDoorMixG
namespace Go.Proofs.YtalodfjplegibaaGreatDoor
set_option linter.unusedSimpArgs false
open Go.RowKit
set_option linter.unusedVariables false

/-- a ratio -/
structure RV where
  n0 : Int
  n1 : Int
  n2 : Int
  n3 : Int
  n4 : Int
  n5 : Int
  d : Int
def RV.num (r : RV) : Nat → Int
  | 0 => r.n0
  | 1 => r.n1
  | 2 => r.n2
  | 3 => r.n3
  | 4 => r.n4
  | _ => r.n5
def RV.cells (r : RV) : Array Value := #[.int .i64 r.n0, .int .i64 r.n1, .int .i64 r.n2, .int .i64 r.n3, .int .i64 r.n4, .int .i64 r.n5, .int .i64 r.d]
def RV.nums (r : RV) : Array Value := #[.int .i64 r.n0, .int .i64 r.n1, .int .i64 r.n2, .int .i64 r.n3, .int .i64 r.n4, .int .i64 r.n5]
/-- the greatest common divisor of the denominator and the first exponents -/
def RV.gcd (r : RV) : Nat → Nat
  | 0 => r.d.natAbs
  | i+1 => Nat.gcd (r.gcd i) (r.num i).natAbs
def inR (z : Int) : Prop := -100000 ≤ z ∧ z ≤ 100000
instance (z : Int) : Decidable (inR z) := inferInstanceAs (Decidable (_ ∧ _))
open Classical in
/-- the error of a ratio -/
noncomputable def checkS (r : RV) : Int := if r.d < 1 ∨ 1000 < r.d then 2 else if ∀ i, i < 6 → inR (r.num i) then (if r.gcd 6 = 1 then 0 else 6) else 2
theorem RV.gcd_pos {r : RV} (h : 1 ≤ r.d) : ∀ i, 0 < r.gcd i ∧ r.gcd i ≤ r.d.natAbs
  | 0 => ⟨by show 0 < r.d.natAbs; omega, Nat.le_refl _⟩
  | i+1 => by
    obtain ⟨h1, h2⟩ := RV.gcd_pos h i
    exact ⟨Nat.gcd_pos_of_pos_left _ h1, Nat.le_trans (Nat.gcd_le_left _ h1) h2⟩
theorem checkS_ok {r : RV} (h : checkS r = 0) : (1 ≤ r.d ∧ r.d ≤ 1000) ∧ (∀ i, i < 6 → inR (r.num i)) ∧ r.gcd 6 = 1 := by
  unfold checkS at h
  split at h
  · cases h
  · split at h
    · split at h
      · rename_i h1 h2 h3
        exact ⟨by omega, h2, h3⟩
      · cases h
    · cases h
theorem ret_val {k : IntKind} {a b : Int} (h : a = b) : Value.int k a = Value.int k b := by rw [h]
theorem index6_0 (r : RV) (W : World) : (Instr.index 22 (.agg r.nums) (.int .i64 0)).run Tryz.prog W = .ok (.int .i64 r.n0) W := by kernel_rfl
theorem index6_1 (r : RV) (W : World) : (Instr.index 22 (.agg r.nums) (.int .i64 1)).run Tryz.prog W = .ok (.int .i64 r.n1) W := by kernel_rfl
theorem index6_2 (r : RV) (W : World) : (Instr.index 22 (.agg r.nums) (.int .i64 2)).run Tryz.prog W = .ok (.int .i64 r.n2) W := by kernel_rfl
theorem index6_3 (r : RV) (W : World) : (Instr.index 22 (.agg r.nums) (.int .i64 3)).run Tryz.prog W = .ok (.int .i64 r.n3) W := by kernel_rfl
theorem index6_4 (r : RV) (W : World) : (Instr.index 22 (.agg r.nums) (.int .i64 4)).run Tryz.prog W = .ok (.int .i64 r.n4) W := by kernel_rfl
theorem index6_5 (r : RV) (W : World) : (Instr.index 22 (.agg r.nums) (.int .i64 5)).run Tryz.prog W = .ok (.int .i64 r.n5) W := by kernel_rfl
theorem index6 (W : World) (r : RV) {i : Nat} (hi : i < 6) : (Instr.index 22 (.agg r.nums) (.int .i64 (i : Int))).run Tryz.prog W = .ok (.int .i64 (r.num i)) W := by
  have h : i = 0 ∨ i = 1 ∨ i = 2 ∨ i = 3 ∨ i = 4 ∨ i = 5 := by omega
  rcases h with rfl | rfl | rfl | rfl | rfl | rfl
  · exact index6_0 r W
  · exact index6_1 r W
  · exact index6_2 r W
  · exact index6_3 r W
  · exact index6_4 r W
  · exact index6_5 r W
theorem rsize_any (z : Int) (w : World) (h1 : -1000000000000000000 ≤ z) (h2 : z ≤ 1000000000000000000) :
    Calls Tryz.prog 52 #[.int .i64 z] w fun e w' => e = .returned (.int .i64 (z.natAbs : Nat)) ∧ w = w' := by
  have hw : IntKind.i64.wrap (-z) = -z := by rw [IntKind.wrap_i64]; omega
  rcases Int.le_total 0 z with h0 | h0
  · have hle : ¬ z < -z := by omega
    have hm : max z (-z) = z := by omega
    go_enter Tryz.func52, Tryz.ntmps52
    go_wp2_with fail
    all_goals (go_ret; exact ⟨ret_int (by omega), rfl⟩)
  · have hm : max z (-z) = -z := by omega
    go_enter Tryz.func52, Tryz.ntmps52
    go_wp2_with fail
    all_goals (go_ret; exact ⟨ret_int (by omega), rfl⟩)
set_option maxHeartbeats 3200000 in
set_option maxRecDepth 100000 in
theorem rcheckR_any (r : RV) (w : World) : Calls Tryz.prog 42 #[.agg r.cells] w fun e w' => e = .returned (.int .i64 (checkS r)) ∧ Below w.heap.size w w' := by
  have hu := (Below.refl w.heap.size w).alloc (Nat.le_refl _) (.cells r.cells 24)
  have X0 := Blk.new w 24 r.cells
  unfold RV.cells at *
  have HU : Sl _ := ⟨And.intro hu X0⟩
  clear hu X0
  have hidx := fun (W : World) (i : Nat) (hi : i < 6) => index6 W r hi
  unfold RV.nums at hidx
  by_cases hd : r.d < 1 ∨ 1000 < r.d
  · have HR : Sl (checkS r = 2) := ⟨by unfold checkS; rw [if_pos hd]⟩
    clear hidx
    rcases Decidable.em (r.d < 1) with h1 | h1
    · clear hd
      go_enter Tryz.func42, Tryz.ntmps42
      go_wp2_with fail
      go_ret
      exact ⟨by rw [HR.out]; rfl, HU.out.1⟩
    · have h2 : 1000 < r.d := by omega
      have h3 : ¬ r.d < 1 := by omega
      clear hd
      go_enter Tryz.func42, Tryz.ntmps42
      go_wp2_with fail
      go_ret
      exact ⟨by rw [HR.out]; rfl, HU.out.1⟩
  · have hd1 : ¬ r.d < 1 := by omega
    have hd2 : ¬ 1000 < r.d := by omega
    have HD : Sl _ := ⟨hd⟩
    clear hd
    go_enter Tryz.func42, Tryz.ntmps42
    go_wp2_with fail
    generalize w.alloc (.cells #[.int .i64 r.n0, .int .i64 r.n1, .int .i64 r.n2, .int .i64 r.n3, .int .i64 r.n4, .int .i64 r.n5, .int .i64 r.d] 24) = w0 at *
    go_loopw [3, 18] (fun s3 s18 wr => ∃ i : Nat, i ≤ 6 ∧ s18 = .int .i64 i ∧ s3 = .int .i64 (r.gcd i : Nat) ∧ Sl (Below w.heap.size w wr ∧ ∀ j, j < i → inR (r.num j))) (fun _ s18 _ => 6 - (RowKit.intOf s18).toNat)
    case atStart => exact ⟨0, by decide, rfl, ret_val (by show r.d = ((r.d.natAbs : Nat) : Int); omega), ⟨HU.out.1, fun j hj => absurd hj (Nat.not_lt_zero _)⟩⟩
    case round =>
      obtain ⟨i, hi, rfl, rfl, HR⟩ := hrel
      by_cases hi6 : i < 6
      · have hix := fun W : World => hidx W i hi6
        obtain ⟨z, hz⟩ : ∃ z, r.num i = z := ⟨_, rfl⟩
        obtain ⟨g, hg⟩ : ∃ g, r.gcd i = g := ⟨_, rfl⟩
        obtain ⟨g', hg'⟩ : ∃ g', r.gcd (i + 1) = g' := ⟨_, rfl⟩
        rw [hz] at hix
        have hgp := RV.gcd_pos (r := r) (by omega) i
        rw [hg] at hgp
        have hgd : Nat.gcd g z.natAbs = g' := by rw [← hg', ← hg, ← hz]; rfl
        rw [hg]
        have HZ : Sl _ := ⟨And.intro hz (And.intro hg hg')⟩
        clear hidx hz hg hg'
        by_cases hin : inR z
        · have h1 : ¬ z < -100000 := by have := hin.1; omega
          have h2 : ¬ 100000 < z := by have := hin.2; omega
          have HS : Sl _ := ⟨fun W : World => rsize_any z W (by have := hin.1; omega) (by have := hin.2; omega)⟩
          have HG : Sl _ := ⟨fun W : World => rgcd_any g z.natAbs W (by omega) (by have := hin.1; have := hin.2; omega)⟩
          rw [hgd] at HG
          have HIN : Sl _ := ⟨hin⟩
          clear hgd hgp hin
          generalize z.natAbs = za at *
          go_wp2_with fail
          refine (HS.out _).mono ?_; rintro e w1 ⟨rfl, rfl⟩
          go_wp2_with fail
          refine (HG.out _).mono ?_; rintro e w2 ⟨rfl, dn, rfl⟩
          go_wp2_with fail
          refine ⟨⟨i + 1, hi6, by go_num, ret_val (by rw [HZ.out.2.2]), ⟨below_drewN HR.out.1 dn, fun j hj => ?_⟩⟩, by simp [RowKit.intOf]; omega⟩
          rcases Nat.lt_or_ge j i with h | h
          · exact HR.out.2 j h
          · have : j = i := by omega
            rw [this, HZ.out.1]; exact HIN.out
        · have hres : Sl (checkS r = 2) := ⟨by
            unfold checkS
            rw [if_neg HD.out, if_neg]
            intro h
            have := h i hi6
            rw [HZ.out.1] at this
            exact hin this⟩
          clear hgd
          rcases Decidable.em (z < -100000) with h1 | h1
          · clear hin
            go_wp2_with fail
            go_ret
            exact ⟨by rw [hres.out]; rfl, HR.out.1⟩
          · have h2 : 100000 < z := by
              rcases Decidable.em (100000 < z) with h | h
              · exact h
              · exact absurd ⟨by omega, by omega⟩ hin
            have h3 : ¬ z < -100000 := by omega
            clear hin
            go_wp2_with fail
            go_ret
            exact ⟨by rw [hres.out]; rfl, HR.out.1⟩
      · obtain rfl : i = 6 := by omega
        have hall : ∀ i, i < 6 → inR (r.num i) := HR.out.2
        have hgp := (RV.gcd_pos (r := r) (by omega) 6).1
        obtain ⟨g, hg⟩ : ∃ g, r.gcd 6 = g := ⟨_, rfl⟩
        rw [hg] at hgp ⊢
        by_cases h1 : g = 1
        · have hres : Sl (checkS r = 0) := ⟨by unfold checkS; rw [if_neg HD.out, if_pos hall, if_pos (hg.trans h1)]⟩
          subst h1
          clear hall hg hidx
          go_wp2_with fail
          go_ret
          exact ⟨by rw [hres.out]; rfl, HR.out.1⟩
        · have hres : Sl (checkS r = 6) := ⟨by unfold checkS; rw [if_neg HD.out, if_pos hall, if_neg (by rw [hg]; exact h1)]⟩
          have h2 : (1 : Int) < (g : Int) := by omega
          clear hall hg hidx h1
          go_wp2_with fail
          go_ret
          exact ⟨by rw [hres.out]; rfl, HR.out.1⟩
end Go.Proofs.YtalodfjplegibaaGreatDoor
