/- The reference of chapter 11: Row; the law's sameInts. -/
import Derived.Test.YtafadpaljanghaaGreatDoorMyV
namespace Go.Proofs.YtafadpaljanghaaGreatDoor
set_option linter.unusedSimpArgs false
open Go.RowKit
set_option linter.unusedVariables false

set_option maxHeartbeats 3200000 in
set_option maxRecDepth 100000 in
/-- sameInts of two rows that read alike -/
theorem sameInts11_any (A B : Option Addr) (n c d : Nat) (l : List Int) (w : World) (h1 : II w A n l) (h2 : II w B n l) (hn : n ≤ 9223372036854775807) :
    Calls Tryz.prog 17 #[.slice A n c, .slice B n d] w fun e w' => e = .returned (.bool true) ∧ ∃ m, w' = w.drewN m := by
  have H1 : Sl _ := ⟨h1⟩
  have H2 : Sl _ := ⟨h2⟩
  clear h1 h2
  have hne : ((n : Int) != (n : Int)) = false := by simp
  go_enter Tryz.func17, Tryz.ntmps17
  go_wp2_with fail
  go_loopw [5] (fun s5 wr => ∃ (k : Nat), k ≤ n ∧ s5 = .int .i64 k ∧ Sl (∃ q, wr = w.drewN q)) (fun s5 _ => n - (RowKit.intOf s5).toNat)
  case atStart => exact ⟨0, Nat.zero_le _, rfl, ⟨0, rfl⟩⟩
  case round =>
    obtain ⟨k, hk, rfl, HK⟩ := hrel
    by_cases hkn : k < n
    · have HA : Sl (II wr A n l) := ⟨by obtain ⟨q, hq⟩ := HK.out; rw [hq]; exact ⟨H1.out.1, H1.out.2.drewN q⟩⟩
      have HB : Sl (II wr B n l) := ⟨by obtain ⟨q, hq⟩ := HK.out; rw [hq]; exact ⟨H2.out.1, H2.out.2.drewN q⟩⟩
      obtain ⟨ad, rfl, _, e1⟩ := HA.out.cell (j := k) hkn
      obtain ⟨bd, rfl, _, e2⟩ := HB.out.cell (j := k) hkn
      have hkI : (k : Int) < (n : Int) := by omega
      generalize gt l k = z at *
      have hz : (z != z) = false := by simp
      go_wp2_with fail
      go_quiet (fail)
      go_wp2_with fail
      refine ⟨⟨k + 1, hkn, by go_num, ⟨by obtain ⟨q, hq⟩ := HK.out; exact ⟨q + nq, by rw [hq, drew2]⟩⟩⟩, by simp [RowKit.intOf]; omega⟩
    · obtain rfl : k = n := by omega
      go_wp2_with fail
      go_ret
      exact ⟨rfl, HK.out⟩
end Go.Proofs.YtafadpaljanghaaGreatDoor
