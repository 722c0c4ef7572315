/- Package ratios: the greatest number for which something is true. -/
import Derived.Test.YtcmofoggdchofaaDoorMixG
namespace Go.Proofs.YtcmofoggdchofaaDoor
set_option linter.unusedSimpArgs false
open Go.RowKit
set_option linter.unusedVariables false

/-- what greatest returns of a test P -/
def GrRes (P : Int → Bool) (low high : Int) (e : Ending) : Prop := ∃ m : Int, e = .returned (.int .i64 m) ∧ low ≤ m ∧ m < high ∧ (m = low ∨ P m = true) ∧ (m + 1 = high ∨ P (m + 1) = false)
set_option maxHeartbeats 800000 in
theorem greatest_any (q : Value) (P : Int → Bool) (low high : Int) (w : World) (hlh : low < high) (hl : -2000000000000 ≤ low) (hh : high ≤ 2000000000000)
    (hF : ∀ (m : Int) (W : World), low < m → m < high → Below w.heap.size w W → Calls Tryd.prog 52 #[.int .i64 m, q] W fun e w' => e = .returned (.bool (P m)) ∧ Below W.heap.size W w') :
    Calls Tryd.prog 53 #[.int .i64 low, .int .i64 high, .func (.func 52) #[] #[q]] w fun e w' => GrRes P low high e ∧ Below w.heap.size w w' := by
  have HF : Sl _ := ⟨hF⟩
  clear hF
  have hrun : ∀ (args : Array Value) (w : World), (callFunc 52 args).run Tryd.prog w = .ok (.enter 52 args) w := fun a w => by go_simp
  go_enter Tryd.func53, Tryd.ntmps53
  go_wp2_with fail
  go_loopw [0, 1] (fun s0 s1 wr => ∃ (lo hi : Int), s0 = .int .i64 lo ∧ s1 = .int .i64 hi ∧ low ≤ lo ∧ lo < hi ∧ hi ≤ high ∧ Sl ((lo = low ∨ P lo = true) ∧ (hi = high ∨ P hi = false)) ∧ Below w.heap.size w wr) (fun s0 s1 _ => (RowKit.intOf s1 - RowKit.intOf s0).toNat)
  case atStart => exact ⟨low, high, rfl, rfl, Int.le_refl _, hlh, Int.le_refl _, ⟨.inl rfl, .inl rfl⟩, Below.refl _ _⟩
  case round =>
    obtain ⟨lo, hi, rfl, rfl, h1, h2, h3, HP, hB⟩ := hrel
    by_cases hgo : 1 < hi - lo
    · obtain ⟨m, hm⟩ : ∃ m, lo + (hi - lo) / 2 = m := ⟨_, rfl⟩
      have hm1 : lo < m := by omega
      have hm2 : m < hi := by omega
      have hC := HF.out m wr (by omega) (by omega) hB
      have HC : Sl _ := ⟨hC⟩
      clear hC
      cases hPm : P m
      · rw [hPm] at HC
        have HPM : Sl _ := ⟨hPm⟩
        clear hPm
        go_wp2_with fail
        refine HC.out.mono ?_; rintro e w2 ⟨rfl, hb⟩
        go_wp2_with fail
        exact ⟨⟨lo, m, rfl, rfl, h1, hm1, by omega, ⟨HP.out.1, .inr HPM.out⟩, hB.trans (hb.mono hB.size)⟩, by simp [RowKit.intOf]; omega⟩
      · rw [hPm] at HC
        have HPM : Sl _ := ⟨hPm⟩
        clear hPm
        go_wp2_with fail
        refine HC.out.mono ?_; rintro e w2 ⟨rfl, hb⟩
        go_wp2_with fail
        exact ⟨⟨m, hi, rfl, rfl, by omega, hm2, h3, ⟨.inr HPM.out, HP.out.2⟩, hB.trans (hb.mono hB.size)⟩, by simp [RowKit.intOf]; omega⟩
    · obtain rfl : hi = lo + 1 := by omega
      go_wp2_with fail
      go_ret
      exact ⟨⟨lo, rfl, h1, by omega, HP.out.1, HP.out.2⟩, hB⟩
end Go.Proofs.YtcmofoggdchofaaDoor
