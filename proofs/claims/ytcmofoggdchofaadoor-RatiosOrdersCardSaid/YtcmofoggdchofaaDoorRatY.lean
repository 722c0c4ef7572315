/- Package ratios: first. -/
import Derived.Test.YtcmofoggdchofaaDoorRatX
namespace Go.Proofs.YtcmofoggdchofaaDoor
set_option linter.unusedSimpArgs false
open Go.RowKit
set_option linter.unusedVariables false

theorem rcmpor_any (g : Nat) (t : TypeId) (a b : Int) (n : Nat) (w : World) (hB : Blk w g t #[.int .i64 a, .int .i64 b]) :
    Calls Tryd.prog 43 #[.slice (some ⟨g, 0, none⟩) 2 n] w fun e w' => e = .returned (.int .i64 (firstE a b)) ∧ ∃ m, w' = w.drewN m := by
  obtain ⟨s, hs⟩ : ∃ s, firstE a b = s := ⟨_, rfl⟩
  rw [hs]
  unfold firstE at hs
  have c0 := fun k => show (w.drewN k).cell? ⟨g, 0, none⟩ = some (.int .i64 a) from (hB.below (below_drewN (Below.refl _ _) k) hB.lt).cell 0
  have c1 := fun k => show (w.drewN k).cell? ⟨g, 1, none⟩ = some (.int .i64 b) from (hB.below (below_drewN (Below.refl _ _) k) hB.lt).cell 1
  have HB : Sl _ := ⟨And.intro hB hs⟩
  clear hs hB
  go_enter Tryd.func43, Tryd.ntmps43
  go_wp2_with fail
  go_loopw [8] (fun s8 wr => ∃ i : Nat, i ≤ 2 ∧ s8 = .int .i64 i ∧ Sl ((∀ j, j < i → (if j = 0 then a else b) = 0) ∧ ∃ m, wr = w.drewN m)) (fun s8 _ => 2 - (RowKit.intOf s8).toNat)
  case atStart => exact ⟨0, Nat.zero_le _, rfl, ⟨fun j hj => absurd hj (Nat.not_lt_zero _), 0, rfl⟩⟩
  case round =>
    obtain ⟨i, hi, rfl, HR⟩ := hrel
    obtain ⟨m, rfl⟩ := HR.out.2
    have h3 : i = 0 ∨ i = 1 ∨ i = 2 := by omega
    rcases h3 with rfl | rfl | rfl
    · by_cases h0 : a = 0
      · subst h0
        go_wp2_with fail
        repeat (first | exact ⟨⟨1, by decide, rfl, ⟨fun j hj => by rw [if_pos (by omega)], m, rfl⟩⟩, by simp [RowKit.intOf]⟩ | fail)
      · have hz : (a != 0) = true := by rw [bne_iff_ne]; exact h0
        have HS : Sl (a = s) := ⟨by rw [← HB.out.2, if_neg h0]⟩
        go_wp2_with fail
        go_ret
        exact ⟨by rw [HS.out]; rfl, m, rfl⟩
    · have ha : a = 0 := by have := HR.out.1 0 (by decide); rwa [if_pos rfl] at this
      by_cases h0 : b = 0
      · subst h0
        go_wp2_with fail
        repeat (first | exact ⟨⟨2, by decide, rfl, ⟨fun j hj => by split; exact ha; rfl, m, rfl⟩⟩, by simp [RowKit.intOf]⟩ | fail)
      · have hz : (b != 0) = true := by rw [bne_iff_ne]; exact h0
        have HS : Sl (b = s) := ⟨by rw [← HB.out.2, if_pos ha]⟩
        go_wp2_with fail
        go_ret
        exact ⟨by rw [HS.out]; rfl, m, rfl⟩
    · have HS : Sl (0 = s) := ⟨by
        have h1 := HR.out.1 0 (by decide)
        have h2 := HR.out.1 1 (by decide)
        rw [if_pos rfl] at h1
        rw [if_neg (by decide)] at h2
        rw [← HB.out.2, if_pos h1, h2]⟩
      go_wp2_with fail
      go_ret
      exact ⟨by rw [HS.out]; rfl, m, rfl⟩
end Go.Proofs.YtcmofoggdchofaaDoor
