/- Chapter 04: the reference's Of of any numbers; the law's Same. -/
import Derived.Test.YtcmofoggdchofaaDoorRatR
namespace Go.Proofs.YtcmofoggdchofaaDoor
set_option linter.unusedSimpArgs false
open Go.RowKit
set_option linter.unusedVariables false

set_option maxHeartbeats 3200000 in
set_option maxRecDepth 100000 in
theorem r4Of_any (a b : Int) (w : World) : Calls Tryd.prog 8 #[.int .i64 a, .int .i64 b] w fun e w' => OfRes e (ofS a b) ∧ Below w.heap.size w w' := by
  by_cases h : okN a ∧ okN b
  · obtain ⟨x, rfl⟩ := Int.eq_ofNat_of_zero_le (show 0 ≤ a by have := h.1.1; omega)
    obtain ⟨y, rfl⟩ := Int.eq_ofNat_of_zero_le (show 0 ≤ b by have := h.2.1; omega)
    have h1 := h.1.1
    have h2 := h.1.2
    have h3 := h.2.1
    have h4 := h.2.2
    refine r4Of_good x y w (by omega) (by omega) (by omega) (by omega) _ ?_
    rw [of_same (by omega) (by omega)]
    unfold ofS
    rw [if_pos h]
    simp only [Int.natAbs_natCast]
  · have hs : Sl (ofS a b = (RVzero, 2)) := ⟨by unfold ofS; rw [if_neg h]⟩
    have hu := (Below.refl w.heap.size w).alloc (Nat.le_refl _) (.cells RVzero.cells 24)
    have X4 := Blk.new w 24 RVzero.cells
    rw [RVzero_cells] at hu X4
    have HU : Sl _ := ⟨And.intro hu X4⟩
    clear hu X4
    obtain ⟨t, ht⟩ : ∃ t, ofS a b = t := ⟨_, rfl⟩
    rw [ht] at hs ⊢
    clear ht
    have hcase : (decide (a < 1) || decide (1000000000000 < a) || decide (b < 1) || decide (1000000000000 < b)) = true := by
      unfold okN at h
      simp only [Bool.or_eq_true, decide_eq_true_eq]
      omega
    clear h
    by_cases g1 : a < 1
    · clear hcase
      go_enter Tryd.func8, Tryd.ntmps8
      go_wp2_with fail
      refine bodyPost_ret (results_rowR rfl _ _ w.heap.size _ _ _ rfl HU.out.2 Tryd.underlying24 rfl (by kernel_rfl)) rfl ?_
      exact ⟨by rw [hs.out]; rfl, HU.out.1⟩
    · by_cases g2 : 1000000000000 < a
      · clear hcase
        go_enter Tryd.func8, Tryd.ntmps8
        go_wp2_with fail
        refine bodyPost_ret (results_rowR rfl _ _ w.heap.size _ _ _ rfl HU.out.2 Tryd.underlying24 rfl (by kernel_rfl)) rfl ?_
        exact ⟨by rw [hs.out]; rfl, HU.out.1⟩
      · by_cases g3 : b < 1
        · clear hcase
          go_enter Tryd.func8, Tryd.ntmps8
          go_wp2_with fail
          refine bodyPost_ret (results_rowR rfl _ _ w.heap.size _ _ _ rfl HU.out.2 Tryd.underlying24 rfl (by kernel_rfl)) rfl ?_
          exact ⟨by rw [hs.out]; rfl, HU.out.1⟩
        · have g4 : 1000000000000 < b := by
            simp only [Bool.or_eq_true, decide_eq_true_eq] at hcase
            omega
          clear hcase
          go_enter Tryd.func8, Tryd.ntmps8
          go_wp2_with fail
          refine bodyPost_ret (results_rowR rfl _ _ w.heap.size _ _ _ rfl HU.out.2 Tryd.underlying24 rfl (by kernel_rfl)) rfl ?_
          exact ⟨by rw [hs.out]; rfl, HU.out.1⟩
theorem TR.cells' {w : World} {A : Option Addr} {n : Nat} {l : List (Nat × Int)} (h : TR w A n l) {i : Nat} {nn : Nat} {kk : Int} (hi : l[i]? = some (nn, kk)) :
    ∃ ad, A = some ad ∧ w.cell? (ad.add (i * 2)) = some (.int .i64 (nn : Int)) ∧ w.cell? ⟨(ad.add (i * 2)).block, (ad.add (i * 2)).off + 1, none⟩ = some (.int .i64 kk) := by
  obtain ⟨ad, rfl, hab, e1, e2⟩ := h.cells hi
  have e3 : (ad.add (i * 2)).add 1 = ⟨(ad.add (i * 2)).block, (ad.add (i * 2)).off + 1, none⟩ := by
    generalize ad.add (i * 2) = a1
    simp [Addr.add]
  rw [← add_of_add, e3] at e2
  exact ⟨ad, rfl, e1, e2⟩
set_option maxHeartbeats 1600000 in
set_option maxRecDepth 100000 in
/-- equal lists of terms -/
theorem Same_any (A B : Option Addr) (n c d : Nat) (l : List (Nat × Int)) (w : World) (hA : TR w A n l) (hB : TR w B n l) (hn : n ≤ 100) :
    Calls Tryd.prog 13 #[.slice A n c, .slice B n d] w fun e w' => e = .returned (.bool true) ∧ ∃ m, w' = w.drewN m := by
  have HA : Sl _ := ⟨hA⟩
  have HB : Sl _ := ⟨hB⟩
  clear hA hB
  go_enter Tryd.func13, Tryd.ntmps13
  go_wp2_with fail
  go_loopw [5] (fun s5 wr => ∃ i : Nat, i ≤ n ∧ s5 = .int .i64 i ∧ Sl (∃ m, wr = w.drewN m)) (fun s5 _ => n - (RowKit.intOf s5).toNat)
  case atStart => exact ⟨0, Nat.zero_le _, rfl, ⟨0, rfl⟩⟩
  case round =>
    obtain ⟨i, hi, rfl, HR⟩ := hrel
    obtain ⟨m, rfl⟩ := HR.out
    by_cases hin : i < n
    · obtain ⟨⟨nn, kk⟩, hx⟩ : ∃ x, l[i]? = some x := ⟨_, List.getElem?_eq_getElem (by rw [HA.out.1]; exact hin)⟩
      obtain ⟨ad, rfl, e1, e2⟩ := HA.out.cells' hx
      obtain ⟨bd, rfl, f1, f2⟩ := HB.out.cells' hx
      have hi0 : (0 : Int) ≤ (i : Int) := by omega
      have hin2 : (i : Int) < (n : Int) := by omega
      clear hx
      go_wp2_with fail
      go_quiet (fail)
      go_wp2_with fail
      exact ⟨⟨i + 1, hin, by go_num, ⟨m + nq, by simp⟩⟩, by simp [RowKit.intOf]; omega⟩
    · obtain rfl : i = n := by omega
      go_wp2_with fail
      go_ret
      exact ⟨rfl, m, rfl⟩
end Go.Proofs.YtcmofoggdchofaaDoor
