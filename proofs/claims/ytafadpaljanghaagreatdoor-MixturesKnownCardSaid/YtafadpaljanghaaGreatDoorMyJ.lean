/- Package slices over rows of integers: IsSorted, ContainsFunc; package mixtures: outside. -/
import Derived.Test.YtafadpaljanghaaGreatDoorMyH
import Derived.Deep.RegionWith
namespace Go.Proofs.YtafadpaljanghaaGreatDoor
set_option linter.unusedSimpArgs false
open Go.RowKit
set_option linter.unusedVariables false

theorem isNaN_any (z : Int) (w : World) : Calls Tryz.prog 66 #[.int .i64 z] w fun e w' => e = .returned (.bool false) ∧ ∃ m, w' = w.drewN m := by
  have h : (z != z) = false := by simp
  go_enter Tryz.func66, Tryz.ntmps66
  go_wp2_with fail
  go_ret
  exact ⟨rfl, 0, rfl⟩
theorem less_any (a b : Int) (w : World) : Calls Tryz.prog 92 #[.int .i64 a, .int .i64 b] w fun e w' => e = .returned (.bool (decide (a < b))) ∧ ∃ m, w' = w.drewN m := by
  obtain ⟨r, hr⟩ : ∃ r, decide (a < b) = r := ⟨_, rfl⟩
  rw [hr]
  go_enter Tryz.func92, Tryz.ntmps92
  go_wp2_with fail
  refine (isNaN_any a w).mono ?_; rintro e w1 ⟨rfl, m, rfl⟩
  go_wp2_with fail
  go_ret
  exact ⟨rfl, m, rfl⟩
theorem outside_any (z : Int) (w : World) : Calls Tryz.prog 71 #[.int .i64 z] w fun e w' => e = .returned (.bool (outI z)) ∧ w' = w := by
  unfold outI
  by_cases h : z < -24
  · have h1 : decide (z < -24) = true := decide_eq_true h
    rw [h1, Bool.true_or]
    go_enter Tryz.func71, Tryz.ntmps71
    go_wp2_with fail
    go_ret
    exact ⟨rfl, rfl⟩
  · have h1 : decide (z < -24) = false := decide_eq_false h
    rw [h1, Bool.false_or]
    obtain ⟨r, hr⟩ : ∃ r, decide (72 < z) = r := ⟨_, rfl⟩
    rw [hr]
    go_enter Tryz.func71, Tryz.ntmps71
    go_wp2_with fail
    go_ret
    exact ⟨rfl, rfl⟩
set_option maxHeartbeats 1600000 in
set_option maxRecDepth 100000 in
/-- IsSorted -/
theorem isSorted_any (A : Option Addr) (n c : Nat) (l : List Int) (w : World) (hl : II w A n l) (hn : n < 4611686018427387904) : Calls Tryz.prog 70 #[.slice A n c] w fun e w' => e = .returned (.bool (!dn l)) ∧ ∃ m, w' = w.drewN m := by
  have HL : Sl _ := ⟨hl⟩
  have hln := hl.1
  have HLN : Sl _ := ⟨hln⟩
  clear hl hln
  obtain ⟨r, hr⟩ : ∃ r, (!dn l) = r := ⟨_, rfl⟩
  rw [hr]
  have HR : Sl _ := ⟨hr⟩
  clear hr
  go_enter Tryz.func70, Tryz.ntmps70
  go_wp2_with fail
  go_loopw [3] (fun s3 wr => ∃ z : Int, s3 = .int .i64 z ∧ -1 ≤ z ∧ z < n ∧ Sl ((∀ j : Nat, z ≤ (j : Int) → j + 1 < n → gt l j ≤ gt l (j + 1)) ∧ ∃ m, wr = w.drewN m)) (fun s3 _ => (RowKit.intOf s3 + 1).toNat)
  case atStart => exact ⟨(n : Int) - 1, rfl, by omega, by omega, ⟨fun j h1 h2 => by omega, 0, rfl⟩⟩
  case round =>
    obtain ⟨z, rfl, hz1, hz2, HK⟩ := hrel
    by_cases hz : 0 < z
    · obtain ⟨k, rfl⟩ := Int.eq_ofNat_of_zero_le (show 0 ≤ z by omega)
      obtain ⟨i, hi⟩ := Int.eq_ofNat_of_zero_le (show 0 ≤ (k : Int) - 1 by omega)
      have ei : (k : Int) - 1 = (i : Int) := hi
      have hki : k = i + 1 := by omega
      have hin : k < n := by omega
      have hII : II wr A n l := by
        obtain ⟨m, hm⟩ := HK.out.2
        rw [hm]; exact ⟨HL.out.1, HL.out.2.drewN m⟩
      obtain ⟨ad, rfl, hab, c1⟩ := hII.cell (j := k) hin
      obtain ⟨ad', e, _, c2⟩ := hII.cell (j := i) (by omega)
      injection e with e
      subst e
      have hlt : (i : Int) < (n : Int) := by omega
      have hlt1 : (k : Int) < (n : Int) := by omega
      have hin2 : i < n := by omega
      obtain ⟨x, hx⟩ : ∃ x, gt l k = x := ⟨_, rfl⟩
      obtain ⟨y, hy⟩ : ∃ y, gt l i = y := ⟨_, rfl⟩
      rw [hx] at c1
      rw [hy] at c2
      rw [hki] at hx
      have HXY : Sl _ := ⟨And.intro hx (And.intro hy hki)⟩
      clear hki hi
      have VA : Sl (∀ z, Calls Tryz.prog 92 #[.int .i64 x, .int .i64 y] (wr.drewN z) fun e w'' => e = .returned (.bool (decide (x < y))) ∧ ∃ k, w'' = wr.drewN k) := ⟨fun z => (less_any x y (wr.drewN z)).mono fun e w'' h => ⟨h.1, by obtain ⟨k, hk⟩ := h.2; exact ⟨z + k, by rw [hk, drew2]⟩⟩⟩
      clear hx hy hII
      obtain ⟨b, hb⟩ : ∃ b, decide (x < y) = b := ⟨_, rfl⟩
      rw [hb] at VA
      have HB : Sl _ := ⟨hb⟩
      clear hb
      go_wp2_with fail
      go_quiet ((go_at_call 92; (with_reducible exact VA.out _)))
      cases b
      · go_wp2_with fail
        refine ⟨⟨(i : Int), by go_num, by omega, by omega, ⟨fun j h1 h2 => ?_, by obtain ⟨m, hm⟩ := HK.out.2; exact ⟨m + nq, by rw [hm, drew2]⟩⟩⟩, by simp [RowKit.intOf]; omega⟩
        by_cases hj : j = i
        · subst hj
          rw [HXY.out.1, HXY.out.2.1]
          exact Int.not_lt.1 (of_decide_eq_false HB.out)
        · exact HK.out.1 j (by have := HXY.out.2.2; omega) h2
      · have HV : Sl (r = false) := ⟨by
          rw [← HR.out]
          have : dn l = true := anyN_hit (i := i) (by rw [HLN.out]; have := HXY.out.2.2; omega) (by rw [HXY.out.1, HXY.out.2.1]; exact HB.out)
          rw [this]; rfl⟩
        go_wp2_with fail
        go_ret
        exact ⟨by rw [HV.out]; rfl, by obtain ⟨m, hm⟩ := HK.out.2; exact ⟨m + nq, by rw [hm, drew2]⟩⟩
    · have HV : Sl (r = true) := ⟨by
        rw [← HR.out]
        have : dn l = false := anyN_no.2 fun j hj => by
          rw [HLN.out] at hj
          exact decide_eq_false (Int.not_lt.2 (HK.out.1 j (by omega) (by omega)))
        rw [this]; rfl⟩
      have hd : decide (0 < z) = false := decide_eq_false hz
      go_wp2_with fail
      go_ret
      exact ⟨by rw [HV.out]; rfl, HK.out.2⟩
set_option maxHeartbeats 1600000 in
set_option maxRecDepth 100000 in
theorem idxOut_any (A : Option Addr) (n c : Nat) (l : List Int) (w : World) (hl : II w A n l) (hn : n < 4611686018427387904) : Calls Tryz.prog 64 #[.slice A n c, .func (.func 71) #[] #[]] w fun e w' => (∃ z : Int, e = .returned (.int .i64 z) ∧ (0 ≤ z ↔ outL l = true)) ∧ w' = w := by
  have hrun : ∀ (args : Array Value) (w : World), (callFunc 71 args).run Tryz.prog w = .ok (.enter 71 args) w := fun a w => by go_simp
  have HL : Sl _ := ⟨hl⟩
  have HLN : Sl _ := ⟨hl.1⟩
  clear hl
  go_enter Tryz.func64, Tryz.ntmps64
  go_wp2_with fail
  go_loop [5, 8] (fun s5 s8 => ∃ (k : Nat) (v5 : Value), k ≤ n ∧ s8 = .int .i64 k ∧ s5 = v5 ∧ Sl (∀ j, j < k → outI (gt l j) = false)) (fun _ s8 => n - (RowKit.intOf s8).toNat)
  case atStart => exact ⟨0, _, Nat.zero_le _, rfl, rfl, ⟨fun j hj => absurd hj (Nat.not_lt_zero _)⟩⟩
  case round =>
    obtain ⟨k, v5, hk, rfl, rfl, HK⟩ := hrel
    by_cases hkn : k < n
    · obtain ⟨ad, rfl, hab, c1⟩ := HL.out.cell (j := k) hkn
      have hlt : (k : Int) < (n : Int) := by omega
      obtain ⟨x, hx⟩ : ∃ x, gt l k = x := ⟨_, rfl⟩
      rw [hx] at c1
      have HX : Sl _ := ⟨hx⟩
      clear hx
      have HO : Sl _ := ⟨outside_any x w⟩
      obtain ⟨b, hb⟩ : ∃ b, outI x = b := ⟨_, rfl⟩
      rw [hb] at HO
      have HB : Sl _ := ⟨hb⟩
      clear hb
      go_wp2_with fail
      refine HO.out.mono ?_; rintro e w1 ⟨rfl, rfl⟩
      cases b
      · go_wp2_with fail
        refine ⟨⟨k + 1, _, hkn, by go_num, rfl, ⟨fun j hj => ?_⟩⟩, by simp [RowKit.intOf]; omega⟩
        rcases Nat.lt_or_ge j k with h | h
        · exact HK.out j h
        · rw [show j = k by omega, HX.out]; exact HB.out
      · go_wp2_with fail
        go_ret
        exact ⟨⟨_, rfl, ⟨fun _ => anyN_hit (i := k) (by rw [HLN.out]; exact hkn) (by rw [HX.out]; exact HB.out), fun _ => by omega⟩⟩, rfl⟩
    · obtain rfl : k = n := by omega
      go_wp2_with fail
      go_ret
      refine ⟨⟨-1, rfl, ⟨fun h => absurd h (by decide), fun h => ?_⟩⟩, rfl⟩
      have : outL l = false := anyN_no.2 fun j hj => HK.out j (by rw [HLN.out] at hj; exact hj)
      rw [this] at h; cases h
theorem hasOut_any (A : Option Addr) (n c : Nat) (l : List Int) (w : World) (hl : II w A n l) (hn : n < 4611686018427387904) : Calls Tryz.prog 33 #[.slice A n c, .func (.func 71) #[] #[]] w fun e w' => e = .returned (.bool (outL l)) ∧ w' = w := by
  have HI : Sl _ := ⟨idxOut_any A n c l w hl hn⟩
  clear hl
  obtain ⟨r, hr⟩ : ∃ r, outL l = r := ⟨_, rfl⟩
  rw [hr] at HI ⊢
  clear hr
  go_enter Tryz.func33, Tryz.ntmps33
  go_wp2_with fail
  refine HI.out.mono ?_; rintro e w1 ⟨⟨z, rfl, hz⟩, rfl⟩
  have HV : Sl (r = decide (0 ≤ z)) := ⟨by rw [Bool.eq_iff_iff, decide_eq_true_iff]; exact hz.symm⟩
  clear hz
  go_wp2_with fail
  go_ret
  exact ⟨by rw [HV.out]; rfl, rfl⟩
end Go.Proofs.YtafadpaljanghaaGreatDoor
