/- Package wide, fourth part: the exported functions Of, Cmp, Add, Mul. -/
import Derived.Test.YtgjbaamhpapeeaaGreatDoorWideC
namespace Go.Proofs.YtgjbaamhpapeeaaGreatDoor
set_option linter.unusedSimpArgs false
open Go.RowKit
set_option linter.unusedVariables false

/-- a slice of limbs as it comes in: n limbs of the capacity c -/
def Arg (w : World) (A : Option Addr) (n c : Nat) (l : List Nat) : Prop := U w A n l ∧ n ≤ c ∧ c ≤ maxLen
theorem Arg.below {w w' : World} {A : Option Addr} {n c : Nat} {l : List Nat} (h : Arg w A n c l) (hb : Below w.heap.size w w') : Arg w' A n c l := ⟨h.1.below hb, h.2⟩
theorem Arg.alloc {w : World} {A : Option Addr} {n c : Nat} {l : List Nat} (h : Arg w A n c l) (o : Obj) : Arg (w.alloc o) A n c l := h.below ((Below.refl _ _).alloc (Nat.le_refl _) _)
theorem Arg.drewN {w : World} {A : Option Addr} {n c : Nat} {l : List Nat} (h : Arg w A n c l) (k : Nat) : Arg (w.drewN k) A n c l := ⟨h.1.drewN k, h.2⟩

theorem check1 (A : Option Addr) (n c : Nat) (l : List Nat) (w : World) (T : TypeId) (h : Arg w A n c l) :
    Calls Tryz.prog 55 #[.slice (some ⟨w.heap.size, 0, none⟩) 1 1] (w.alloc (.cells #[.slice A n c] T)) fun e w' => e = .returned (.int .i64 (badE [l])) ∧ w.alloc (.cells #[.slice A n c] T) = w' := by
  have ha := h.alloc (.cells #[.slice A n c] T)
  refine check_any _ 1 1 (fun i => .slice A n c) [l] _ rfl (by decide) (fun i hi => ?_) (fun i hi => ?_)
  · obtain rfl : i = 0 := by omega
    simp [Addr.add]
  · obtain rfl : i = 0 := by omega
    exact ⟨A, n, c, rfl, ha.1, ha.2⟩
theorem check2 (A B : Option Addr) (n m c d : Nat) (la lb : List Nat) (w : World) (T : TypeId) (ha : Arg w A n c la) (hb : Arg w B m d lb) :
    Calls Tryz.prog 55 #[.slice (some ⟨w.heap.size, 0, none⟩) 2 2] (w.alloc (.cells #[.slice A n c, .slice B m d] T)) fun e w' => e = .returned (.int .i64 (badE [la, lb])) ∧ w.alloc (.cells #[.slice A n c, .slice B m d] T) = w' := by
  have ha := ha.alloc (.cells #[.slice A n c, .slice B m d] T)
  have hb := hb.alloc (.cells #[.slice A n c, .slice B m d] T)
  refine check_any _ 2 2 (fun i => if i = 0 then .slice A n c else .slice B m d) [la, lb] _ rfl (by decide) (fun i hi => ?_) (fun i hi => ?_)
  · match i, hi with
    | 0, _ => simp [Addr.add]
    | 1, _ => simp [Addr.add]
  · match i, hi with
    | 0, _ => exact ⟨A, n, c, rfl, ha.1, ha.2⟩
    | 1, _ => exact ⟨B, m, d, rfl, hb.1, hb.2⟩

theorem badE_cases (ls : List (List Nat)) : badE ls = 0 ∨ badE ls = 2 ∨ badE ls = 3 := by
  unfold badE; split
  · exact .inr (.inr rfl)
  · split
    · exact .inr (.inl rfl)
    · exact .inl rfl
theorem badE_zero {ls : List (List Nat)} : badE ls = 0 ↔ ∀ l ∈ ls, validL l = true := by
  unfold badE
  constructor
  · intro h
    split at h
    · cases h
    · split at h
      · cases h
      · rename_i h1
        simpa using h1
  · intro h
    have h1 : ls.any (fun l => decide (512 < l.length)) = false := by
      simp; intro l hl
      have := h l hl
      simp [validL] at this; omega
    have h2 : ls.any (fun l => !validL l) = false := by simpa using h
    simp [h1, h2]
/-- a number as a result, if it is not too long -/
def fitS (n : Nat) : List Nat × Int := if (limbs n).length ≤ 512 then (limbs n, 0) else ([], 3)
theorem result_any (A : Option Addr) (n c x : Nat) (w : World) (h : U w A n (limbs x)) :
    Calls Tryz.prog 61 #[.slice A n c] w fun e w' => NatRes (fitS x).1 (fitS x).2 e w' ∧ Below w.heap.size w w' := by
  have hl := h.len
  by_cases h5 : n ≤ 512
  · have e : fitS x = (limbs x, 0) := by simp [fitS, hl, h5]
    rw [e]; exact result_ok A n c _ w h h5
  · have e : fitS x = ([], 3) := by simp [fitS, hl, h5]
    rw [e]; exact result_long A n c w (by omega)

theorem Of_any (x : Nat) (w : World) (hx : x < LB * LB) :
    Calls Tryz.prog 31 #[.int .u64 x] w fun e w' => Limbs (limbs x) e w' ∧ Below w.heap.size w w' := by
  have H := Lib.hid (of_any x w hx)
  clear hx
  go_enter Tryz.func31, Tryz.ntmps31
  go_wp2_with (refine H.out.mono ?_; rintro e w' ⟨⟨A, c, rfl, h1, h2, h3⟩, hb⟩)
  go_ret
  exact ⟨⟨A, c, rfl, h1, h2, h3⟩, hb⟩

/-- Add -/
def plusS (la lb : List Nat) : List Nat × Int := if badE [la, lb] = 0 then fitS (valOf la + valOf lb) else ([], badE [la, lb])
/-- Mul -/
def timesS (la lb : List Nat) : List Nat × Int := if badE [la, lb] = 0 then fitS (valOf la * valOf lb) else ([], badE [la, lb])
def cmpS (la lb : List Nat) : Int × Int := if badE [la, lb] = 0 then (cmpN (valOf la) (valOf lb), 0) else (0, badE [la, lb])
end Go.Proofs.YtgjbaamhpapeeaaGreatDoor
