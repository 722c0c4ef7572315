/- Package ratios: check. -/
import Derived.Test.YtalodfjplegibaaGreatDoorMixG
namespace Go.Proofs.YtalodfjplegibaaGreatDoor
set_option linter.unusedSimpArgs false
open Go.RowKit
set_option linter.unusedVariables false

/-- terms that the document allows -/
def okT (l : List (Nat × Int)) : Prop := l.length ≤ 16 ∧ ∀ x ∈ l, 1 ≤ x.1 ∧ x.1 ≤ 1000000000000 ∧ -1000000000 ≤ x.2 ∧ x.2 ≤ 1000000000
set_option maxHeartbeats 800000 in
set_option maxRecDepth 100000 in
theorem rcheck_ok (A : Option Addr) (n c : Nat) (l : List (Nat × Int)) (w : World) (hl : TR w A n l) (hok : okT l) :
    Calls Tryz.prog 34 #[.slice A n c] w fun e w' => e = .returned (.int .i64 0) ∧ Below w.heap.size w w' := by
  have hn : n ≤ 16 := by rw [← hl.1]; exact hok.1
  have HL : Sl _ := ⟨hl⟩
  have HK : Sl _ := ⟨hok⟩
  clear hl hok
  go_enter Tryz.func34, Tryz.ntmps34
  go_wp2_with fail
  go_loopw [10] (fun s10 wr => ∃ i : Nat, i ≤ n ∧ s10 = .int .i64 i ∧ Below w.heap.size w wr) (fun s10 _ => n - (RowKit.intOf s10).toNat)
  case atStart => exact ⟨0, Nat.zero_le _, rfl, Below.refl _ _⟩
  case round =>
    obtain ⟨i, hi, rfl, hB⟩ := hrel
    by_cases hin : i < n
    · obtain ⟨⟨nn, kk⟩, hx⟩ : ∃ x, l[i]? = some x := ⟨_, List.getElem?_eq_getElem (by rw [HL.out.1]; exact hin)⟩
      obtain ⟨ad, rfl, hab, c1, c2⟩ := (HL.out.below hB).cells hx
      have e1 : (ad.add (i * 2)).add 1 = ⟨(ad.add (i * 2)).block, (ad.add (i * 2)).off + 1, none⟩ := by
        generalize ad.add (i * 2) = a1
        simp [Addr.add]
      rw [← add_of_add, e1] at c2
      have hk := HK.out.2 _ (List.mem_of_getElem? hx)
      obtain ⟨k1, k2, k3, k4⟩ := hk
      simp only [] at k1 k2 k3 k4
      have hB1 := hB.alloc hB.size (.cells #[.int .i64 (nn : Int), .int .i64 kk] 35)
      clear e1 hx
      go_wp2_with fail
      exact ⟨⟨i + 1, hin, by go_num, hB1⟩, by simp [RowKit.intOf]; omega⟩
    · obtain rfl : i = n := by omega
      go_wp2_with fail
      go_ret
      exact ⟨rfl, hB⟩
end Go.Proofs.YtalodfjplegibaaGreatDoor
