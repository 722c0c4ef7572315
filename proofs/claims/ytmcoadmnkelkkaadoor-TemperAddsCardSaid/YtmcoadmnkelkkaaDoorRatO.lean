/- The reference of chapter 04: gcd, Check. The reference of chapter 04: Primes, Terms. -/
import Derived.Test.YtmcoadmnkelkkaaDoorRatH
import Derived.Test.YtmcoadmnkelkkaaDoorRatI
import Derived.Deep.RegionLaw
namespace Go.Proofs.YtmcoadmnkelkkaaDoor
set_option linter.unusedSimpArgs false
open Go.RowKit
set_option linter.unusedVariables false

set_option maxHeartbeats 800000 in
theorem r4gcd_any (a b : Nat) (w : World) (ha : a < 4000000000000000000) (hb : b < 4000000000000000000) :
    Calls Tryd.prog 45 #[.int .i64 a, .int .i64 b] w fun e w' => e = .returned (.int .i64 (Nat.gcd a b)) ∧ ∃ m, w' = w.drewN m := by
  go_enter Tryd.func45, Tryd.ntmps45
  go_wp2_with fail
  go_loopw [0, 1] (fun s0 s1 wr => ∃ (x y : Nat), s0 = .int .i64 x ∧ s1 = .int .i64 y ∧ x < 4000000000000000000 ∧ y < 4000000000000000000 ∧ Sl (Nat.gcd x y = Nat.gcd a b ∧ ∃ m, wr = w.drewN m)) (fun _ s1 _ => (RowKit.intOf s1).toNat)
  case atStart => exact ⟨a, b, rfl, rfl, ha, hb, ⟨rfl, 0, rfl⟩⟩
  case round =>
    clear ha hb
    obtain ⟨x, y, rfl, rfl, hx, hy, HG⟩ := hrel
    rcases Nat.eq_zero_or_pos y with h0 | h0
    · subst h0
      go_wp2_with fail
      go_ret
      obtain ⟨h1, m, h2⟩ := HG.out
      rw [Nat.gcd_zero_right] at h1
      exact ⟨by rw [← h1]; rfl, m, h2⟩
    · have hne : ((y : Int) == 0) = false := by rw [beq_eq_false_iff_ne]; omega
      have hmod : (x : Int).tmod (y : Int) = ((x % y : Nat) : Int) := by rw [Int.tmod_eq_emod_of_nonneg (by omega)]; omega
      have hlt : x % y < y := Nat.mod_lt _ h0
      have HGN : Sl (Nat.gcd y (x % y) = Nat.gcd a b) := ⟨by rw [← HG.out.1, Nat.gcd_comm y, ← Nat.gcd_rec, Nat.gcd_comm]⟩
      generalize x % y = r at *
      go_wp2_with fail
      go_quiet (fail)
      go_wp2_with fail
      obtain ⟨m, hm⟩ := HG.out.2
      refine ⟨⟨y, r, rfl, rfl, hy, by omega, ⟨HGN.out, m + nq, by rw [hm]; simp⟩⟩, by simp [RowKit.intOf]; omega⟩
theorem RV.cell_num (r : RV) {i : Nat} (hi : i < 6) : r.cells[i]? = some (.int .i64 (r.num i)) := by
  have h6 : i = 0 ∨ i = 1 ∨ i = 2 ∨ i = 3 ∨ i = 4 ∨ i = 5 := by omega
  rcases h6 with rfl | rfl | rfl | rfl | rfl | rfl <;> rfl
set_option maxHeartbeats 3200000 in
set_option maxRecDepth 100000 in
theorem r4Check_any (r : RV) (w : World) : Calls Tryd.prog 43 #[.agg r.cells] w fun e w' => e = .returned (.int .i64 (checkS r)) ∧ Below w.heap.size w w' := by
  have hu := (Below.refl w.heap.size w).alloc (Nat.le_refl _) (.cells r.cells 34)
  have X0 := Blk.new w 34 r.cells
  have HU : Sl _ := ⟨And.intro hu X0⟩
  have hcells : r.cells = #[.int .i64 r.n0, .int .i64 r.n1, .int .i64 r.n2, .int .i64 r.n3, .int .i64 r.n4, .int .i64 r.n5, .int .i64 r.d] := rfl
  rw [hcells]
  have HCE : Sl _ := ⟨hcells⟩
  clear hu X0 hcells
  by_cases hd : r.d < 1 ∨ 1000 < r.d
  · have HR : Sl (checkS r = 2) := ⟨by unfold checkS; rw [if_pos hd]⟩
    rw [HCE.out] at HU
    rcases Decidable.em (r.d < 1) with h1 | h1
    · clear hd
      go_enter Tryd.func43, Tryd.ntmps43
      go_wp2_with fail
      go_ret
      exact ⟨by rw [HR.out]; rfl, HU.out.1⟩
    · have h2 : 1000 < r.d := by omega
      have h3 : ¬ r.d < 1 := by omega
      clear hd
      go_enter Tryd.func43, Tryd.ntmps43
      go_wp2_with fail
      go_ret
      exact ⟨by rw [HR.out]; rfl, HU.out.1⟩
  · have hd1 : ¬ r.d < 1 := by omega
    have hd2 : ¬ 1000 < r.d := by omega
    have HD : Sl _ := ⟨hd⟩
    clear hd
    go_enter Tryd.func43, Tryd.ntmps43
    go_wp2_with fail
    rw [← HCE.out]
    generalize w.alloc (.cells r.cells 34) = w0 at *
    go_loopw [3, 4] (fun s3 s4 wr => ∃ i : Nat, i ≤ 6 ∧ s4 = .int .i64 i ∧ s3 = .int .i64 (r.gcd i : Nat) ∧ Sl (Below w.heap.size w wr ∧ Blk wr w.heap.size 34 r.cells ∧ ∀ j, j < i → inR (r.num j))) (fun _ s4 _ => 6 - (RowKit.intOf s4).toNat)
    case atStart => exact ⟨0, by decide, rfl, ret_val (by show r.d = ((r.d.natAbs : Nat) : Int); omega), ⟨HU.out.1, HU.out.2, fun j hj => absurd hj (Nat.not_lt_zero _)⟩⟩
    case round =>
      obtain ⟨i, hi, rfl, rfl, HR⟩ := hrel
      by_cases hi6 : i < 6
      · obtain ⟨z, hz⟩ : ∃ z, r.num i = z := ⟨_, rfl⟩
        have hc : wr.cell? ⟨w.heap.size, i, none⟩ = some (.int .i64 z) := by rw [HR.out.2.1.cell, RV.cell_num r hi6, hz]
        obtain ⟨g, hg⟩ : ∃ g, r.gcd i = g := ⟨_, rfl⟩
        obtain ⟨g', hg'⟩ : ∃ g', r.gcd (i + 1) = g' := ⟨_, rfl⟩
        have hgp := RV.gcd_pos (r := r) (by omega) i
        rw [hg] at hgp
        have hgd : Nat.gcd g z.natAbs = g' := by rw [← hg', ← hg, ← hz]; rfl
        rw [hg]
        have HZ : Sl _ := ⟨And.intro hz (And.intro hg hg')⟩
        clear hz hg hg'
        by_cases hin : inR z
        · have h1 : ¬ z < -100000 := by have := hin.1; omega
          have h2 : ¬ 100000 < z := by have := hin.2; omega
          have hwz : IntKind.i64.wrap (-z) = -z := by rw [IntKind.wrap_i64]; have := hin.1; have := hin.2; omega
          rcases Decidable.em (0 ≤ z) with h0 | h0
          · have hm1 : max z (-z) = z := by omega
            have hm2 : ¬ z < -z := by omega
            have hm3 : -z ≤ z := by omega
            have VA : Sl (∀ q, Calls Tryd.prog 45 #[.int .i64 g, .int .i64 z] (wr.drewN q) fun e w'' => e = .returned (.int .i64 g') ∧ ∃ m, w'' = wr.drewN m) := ⟨fun q => by
              have h := r4gcd_any g z.natAbs (wr.drewN q) (by omega) (by have := hin.1; have := hin.2; omega)
              rw [hgd, show ((z.natAbs : Nat) : Int) = z by omega] at h
              exact h.mono fun e w'' h => ⟨h.1, by obtain ⟨m, hm⟩ := h.2; exact ⟨q + m, by rw [hm, drew2]⟩⟩⟩
            have HIN : Sl _ := ⟨hin⟩
            clear hgd hgp hin
            go_wp2_with fail
            go_quiet ((go_at_call 45; (with_reducible exact VA.out _)))
            go_wp2_with fail
            refine ⟨⟨i + 1, hi6, by go_num, ret_val (by rw [HZ.out.2.2]), ⟨below_drewN HR.out.1 _, HR.out.2.1.drewN _, fun j hj => ?_⟩⟩, by simp [RowKit.intOf]; omega⟩
            rcases Nat.lt_or_ge j i with h | h
            · exact HR.out.2.2 j h
            · have : j = i := by omega
              rw [this, HZ.out.1]; exact HIN.out
          · have hm1 : max z (-z) = -z := by omega
            have hm3 : z < -z := by omega
            have VA : Sl (∀ q, Calls Tryd.prog 45 #[.int .i64 g, .int .i64 (-z)] (wr.drewN q) fun e w'' => e = .returned (.int .i64 g') ∧ ∃ m, w'' = wr.drewN m) := ⟨fun q => by
              have h := r4gcd_any g z.natAbs (wr.drewN q) (by omega) (by have := hin.1; have := hin.2; omega)
              rw [hgd, show ((z.natAbs : Nat) : Int) = (-z) by omega] at h
              exact h.mono fun e w'' h => ⟨h.1, by obtain ⟨m, hm⟩ := h.2; exact ⟨q + m, by rw [hm, drew2]⟩⟩⟩
            have HIN : Sl _ := ⟨hin⟩
            clear hgd hgp hin
            go_wp2_with fail
            go_quiet ((go_at_call 45; (with_reducible exact VA.out _)))
            go_wp2_with fail
            refine ⟨⟨i + 1, hi6, by go_num, ret_val (by rw [HZ.out.2.2]), ⟨below_drewN HR.out.1 _, HR.out.2.1.drewN _, fun j hj => ?_⟩⟩, by simp [RowKit.intOf]; omega⟩
            rcases Nat.lt_or_ge j i with h | h
            · exact HR.out.2.2 j h
            · have : j = i := by omega
              rw [this, HZ.out.1]; exact HIN.out
        · have hres : Sl (checkS r = 2) := ⟨by
            unfold checkS
            rw [if_neg HD.out, if_neg]
            intro h
            have := h i hi6
            rw [HZ.out.1] at this
            exact hin this⟩
          clear hgd
          rcases Decidable.em (z < -100000) with h1 | h1
          · clear hin
            go_wp2_with fail
            go_ret
            exact ⟨by rw [hres.out]; rfl, HR.out.1⟩
          · have h2 : 100000 < z := by
              rcases Decidable.em (100000 < z) with h | h
              · exact h
              · exact absurd ⟨by omega, by omega⟩ hin
            clear hin
            go_wp2_with fail
            go_ret
            exact ⟨by rw [hres.out]; rfl, HR.out.1⟩
      · obtain rfl : i = 6 := by omega
        have hall : ∀ i, i < 6 → inR (r.num i) := HR.out.2.2
        obtain ⟨g, hg⟩ : ∃ g, r.gcd 6 = g := ⟨_, rfl⟩
        rw [hg]
        by_cases h1 : g = 1
        · have hres : Sl (checkS r = 0) := ⟨by unfold checkS; rw [if_neg HD.out, if_pos hall, if_pos (hg.trans h1)]⟩
          subst h1
          clear hall hg
          go_wp2_with fail
          go_ret
          exact ⟨by rw [hres.out]; rfl, HR.out.1⟩
        · have hres : Sl (checkS r = 6) := ⟨by unfold checkS; rw [if_neg HD.out, if_pos hall, if_neg (by rw [hg]; exact h1)]⟩
          have h2 : ((g : Int) == 1) = false := by rw [beq_eq_false_iff_ne]; omega
          clear hall hg
          go_wp2_with fail
          go_ret
          exact ⟨by rw [hres.out]; rfl, HR.out.1⟩
end Go.Proofs.YtmcoadmnkelkkaaDoor
namespace Go.Proofs.YtmcoadmnkelkkaaDoor
set_option linter.unusedSimpArgs false
open Go.RowKit
set_option linter.unusedVariables false

def primeCells : Array Value := #[.int .i64 2, .int .i64 3, .int .i64 5, .int .i64 7, .int .i64 11, .int .i64 13]
theorem primeCells_at {i : Nat} (hi : i < 6) : primeCells[i]? = some (.int .i64 (prime i : Nat)) := by
  have h6 : i = 0 ∨ i = 1 ∨ i = 2 ∨ i = 3 ∨ i = 4 ∨ i = 5 := by omega
  rcases h6 with rfl | rfl | rfl | rfl | rfl | rfl <;> rfl
theorem Primes_any (w : World) : Calls Tryd.prog 46 #[] w fun e w' => e = .returned (.slice (some ⟨w.heap.size, 0, none⟩) 6 6) ∧ w' = w.alloc (.cells primeCells 2) := by
  go_enter Tryd.func46, Tryd.ntmps46
  go_wp2_with fail
  go_ret
  exact ⟨rfl, rfl⟩
end Go.Proofs.YtmcoadmnkelkkaaDoor
