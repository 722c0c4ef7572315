/- The law WideDivides returns true, where awake does. -/
import Derived.Test.YtgjbaamhpapeeaaGreatDoorLawM
import Derived.Test.YtgjbaamhpapeeaaGreatDoorLawK
namespace Go.Proofs.YtgjbaamhpapeeaaGreatDoor
open Go.RowKit
set_option linter.unusedVariables false
set_option linter.unusedSimpArgs false

theorem gcdS_len (la lb : List Nat) : (gcdS la lb).1.length ≤ 512 := by
  unfold gcdS
  split
  · exact fitS_len _
  · simp
theorem divS_len (la lb : List Nat) (ha : ∀ x ∈ la, x < LB) (hb : ∀ x ∈ lb, x < LB) : (divS la lb).1.length ≤ 512 ∧ (divS la lb).2.1.length ≤ 512 := by
  unfold divS
  split
  · rename_i h
    have hl : la.length ≤ 512 := by
      have := badE_zero.1 h la (by simp)
      simp [validL] at this
      exact this.1
    split
    · simp
    · exact ⟨val_len ha hl (Nat.div_le_self _ _), val_len ha hl (Nat.mod_le _ _)⟩
  · simp

end Go.Proofs.YtgjbaamhpapeeaaGreatDoor
