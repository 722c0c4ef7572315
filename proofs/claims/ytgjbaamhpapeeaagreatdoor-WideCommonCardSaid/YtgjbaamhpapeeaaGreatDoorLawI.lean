/- The laws WideNumbers and WideAdds return true, where awake does. -/
import Derived.Test.YtgjbaamhpapeeaaGreatDoorLawD
namespace Go.Proofs.YtgjbaamhpapeeaaGreatDoor
set_option linter.unusedSimpArgs false
open Go.RowKit
set_option linter.unusedVariables false

/-- what the law's awake gives -/
def Awake : Prop := ∀ w : World, Tab10 w → Calls Tryz.prog 7 #[] w fun e w' => e = .returned (.bool true) ∧ Below w.heap.size w w'

theorem same_self (A B : Option Addr) (c d : Nat) (l : List Nat) (w : World) (ha : U w A l.length l) (hb : U w B l.length l) (hl : l.length ≤ 512) :
    Calls Tryz.prog 23 #[.slice A l.length c, .slice B l.length d] w fun e w' => e = .returned (.bool true) ∧ Below w.heap.size w w' := by
  refine (same_any A B _ _ c d l l w ha hb (by omega) (by omega)).mono ?_
  rintro e w' ⟨rfl, q, rfl⟩
  exact ⟨by simp, below_drewN (Below.refl _ _) q⟩
theorem fitS_len (x : Nat) : (fitS x).1.length ≤ 512 := by
  unfold fitS
  split
  · assumption
  · simp
theorem plusS_len (la lb : List Nat) : (plusS la lb).1.length ≤ 512 := by
  unfold plusS
  split
  · exact fitS_len _
  · simp
theorem timesS_len (la lb : List Nat) : (timesS la lb).1.length ≤ 512 := by
  unfold timesS
  split
  · exact fitS_len _
  · simp
theorem subS_len (la lb : List Nat) : (subS la lb).1.length ≤ 512 := by
  unfold subS
  split
  · split
    · simp
    · exact fitS_len _
  · simp
theorem limbs_len2 {x : Nat} (hx : x < LB * LB) : (limbs x).length ≤ 512 := Nat.le_trans (limbs_len_le (k := 2) (by rw [Nat.pow_succ, Nat.pow_one]; exact hx)) (by decide)

end Go.Proofs.YtgjbaamhpapeeaaGreatDoor
