/- The law WideRoots returns true, where awake does. -/
import Derived.Test.YtgjbaamhpapeeaaGreatDoorLawU
namespace Go.Proofs.YtgjbaamhpapeeaaGreatDoor
open Go.RowKit
set_option linter.unusedVariables false
set_option linter.unusedSimpArgs false

theorem wf_u8 {z : Int} (h : (Lit.int .u8 z).wf = true) : 0 ≤ z ∧ z < 256 := by
  simp [Lit.wf, IntKind.min, IntKind.max, IntKind.signed, IntKind.bits] at h
  omega
theorem NatRes.arg {l : List Nat} {er : Int} {e : Ending} {w : World} (h : NatRes l er e w) {n : Nat} (hl : l.length = n) : ∃ A c, e = .returned (.tuple #[.slice A n c, .int .i64 er]) ∧ Arg w A n c l := by
  subst hl
  obtain ⟨A, c, rfl, h1, h2, h3⟩ := h
  exact ⟨A, c, rfl, h3, h1, h2⟩

end Go.Proofs.YtgjbaamhpapeeaaGreatDoor
