/- Package mixtures: the semitones of the footage 8/3. -/
import Derived.Test.YtkjkbhkcebbjdaaGreatDoorMixN
import Derived.Test.YtkjkbhkcebbjdaaGreatDoorMixS
import Derived.Test.YtkjkbhkcebbjdaaGreatDoorMixU
import Derived.Test.YtkjkbhkcebbjdaaGreatDoorMixW
namespace Go.Proofs.YtkjkbhkcebbjdaaGreatDoor
set_option linter.unusedSimpArgs false
open Go.RowKit
set_option linter.unusedVariables false

theorem QK_24 : QK 24 := fun W => by
  have h := quick_any 24 4 false W (by decide) (by decide) (by decide +kernel) (by decide) (by decide +kernel) (by decide +kernel)
  have e : qkc false 24 4 = qk 24 := by decide +kernel
  rw [e] at h
  exact h
theorem QK_8 : QK 8 := fun W => by
  have h := quick_any 8 3 true W (by decide) (by decide) (by decide +kernel) (by decide) (by decide +kernel) (by decide +kernel)
  have e : qkc true 8 3 = qk 8 := by decide +kernel
  rw [e] at h
  exact h
theorem QK_2 : QK 2 := fun W => by
  have h := quick_any 2 1 true W (by decide) (by decide) (by decide +kernel) (by decide) (by decide +kernel) (by decide +kernel)
  have e : qkc true 2 1 = qk 2 := by decide +kernel
  rw [e] at h
  exact h
theorem good_83 (k : Int) (hk : k.natAbs < 1000000000000000000) : Good [(24, 24), (8, -24), (2, k)] := by
  refine ⟨fun x hx => ?_, fun x hx => ?_, fun x hx => ?_⟩ <;> (simp only [List.mem_cons, List.not_mem_nil, or_false] at hx; rcases hx with rfl | rfl | rfl)
  · exact QK_24
  · exact QK_8
  · exact QK_2
  · decide
  · decide
  · exact hk
  · exact ⟨by show (qk 24).1 < _; rw [qk_24]; decide, by show (qk 24).2 < _; rw [qk_24]; decide⟩
  · exact ⟨by show (qk 8).1 < _; rw [qk_8]; decide, by show (qk 8).2 < _; rw [qk_8]; decide⟩
  · exact ⟨by show (qk 2).1 < _; rw [qk_2]; decide, by show (qk 2).2 < _; rw [qk_2]; decide⟩
theorem knows_83 (k : Int) (hk : k.natAbs < 1000000000000000000) : Knows [(24, 24), (8, -24), (2, k)] (if -38 ≤ k then 1 else -1) := fun A n c W hT => by
  have hn : n = 3 := hT.1.symm
  have h := guess_any A n c _ W hT (by omega) (good_83 k hk)
  rw [guess_83] at h
  exact h
theorem floor_83 (A : Option Addr) (c : Nat) (w : World) (hl : TR w A 2 [(24, 1), (8, -1)]) :
    Calls Tryz.prog 62 #[.slice A 2 c, .int .i64 1, .int .i64 24] w fun e w' => (∃ b : Bool, e = .returned (.tuple #[.int .i64 38, .bool b, .int .i64 0])) ∧ Below w.heap.size w w' := by
  refine (Floor_any A 2 c [(24, 1), (8, -1)] 1 24 (fun m => if m ≤ 38 then 1 else -1) w hl ⟨by decide, fun x hx => ?_⟩ (by decide) (by decide) (by decide) (by decide) (fun m h1 h2 => ?_)).mono fun e w' h => ⟨?_, h.2⟩
  · simp only [List.mem_cons, List.not_mem_nil, or_false] at hx
    rcases hx with rfl | rfl <;> decide
  · have e1 : atM [(24, 1), (8, -1)] 24 1 m = [(24, 24), (8, -24), (2, -m)] := by
      show [(24, (1 : Int) * 24), (8, -1 * 24), (2, -m * 1)] = _
      rw [Int.mul_one]; rfl
    rw [e1]
    have h3 := sign_known _ _ (knows_83 (-m) (by omega))
    have e2 : (if -38 ≤ -m then (1 : Int) else -1) = if m ≤ 38 then 1 else -1 := by
      by_cases h : m ≤ 38
      · rw [if_pos h, if_pos (by omega)]
      · rw [if_neg h, if_neg (by omega)]
    rw [e2] at h3
    exact h3
  · have h1 := h.1
    unfold FloorRes at h1
    rw [if_neg (by decide)] at h1
    obtain ⟨m, _, _, hp, hn, rfl⟩ := h1
    have e38 : m = 38 := by
      have a1 : m ≤ 38 := by
        by_cases h : m ≤ 38
        · exact h
        · simp [h] at hp
      have a2 : ¬ m + 1 ≤ 38 := by
        intro h; simp [h] at hn
      omega
    rw [e38]
    exact ⟨_, rfl⟩
set_option maxHeartbeats 1600000 in
set_option maxRecDepth 100000 in
theorem semi83_any (w : World) : Calls Tryz.prog 52 #[.agg #[.int .i64 8, .int .i64 3]] w fun e w' => e = .returned (.int .i64 19) ∧ Below w.heap.size w w' := by
  have X0 := Blk.new w 70 #[.int .i64 8, .int .i64 3]
  have hu := (Below.refl w.heap.size w).alloc (Nat.le_refl _) (.cells #[.int .i64 8, .int .i64 3] 70)
  have hT : Sl (TR ((w.alloc (.cells #[.int .i64 8, .int .i64 3] 70)).alloc (.cells #[.int .i64 24, .int .i64 1, .int .i64 8, .int .i64 (-1)] 106)) (some ⟨w.heap.size + 1, 0, none⟩) 2 [(24, 1), (8, -1)]) := ⟨by
    refine ⟨rfl, rfl, fun _ => ⟨_, rfl, by simp, fun j u hj => ?_⟩⟩
    have hb := Blk.new (w.alloc (.cells #[.int .i64 8, .int .i64 3] 70)) 106 #[.int .i64 24, .int .i64 1, .int .i64 8, .int .i64 (-1)]
    rw [show (w.alloc (.cells #[.int .i64 8, .int .i64 3] 70)).heap.size = w.heap.size + 1 by simp] at hb
    have e : (⟨w.heap.size + 1, 0, none⟩ : Addr).add j = ⟨w.heap.size + 1, j, none⟩ := by
      unfold Addr.add
      by_cases h : j = 0
      · subst h; simp
      · simp [h]
    rw [e, hb.cell]
    simpa using hj⟩
  have HU : Sl _ := ⟨hu.alloc (by simp) (.cells #[.int .i64 24, .int .i64 1, .int .i64 8, .int .i64 (-1)] 106)⟩
  have HF : Sl _ := ⟨floor_83 _ 2 _ hT.out⟩
  clear hu X0
  go_enter Tryz.func52, Tryz.ntmps52
  go_wp2_with fail
  refine HF.out.mono ?_; rintro e w1 ⟨⟨b, rfl⟩, hb⟩
  go_wp2_with fail
  go_ret
  exact ⟨rfl, HU.out.trans (hb.mono HU.out.size)⟩
theorem Semi83_any (w : World) : Calls Tryz.prog 33 #[.agg #[.int .i64 8, .int .i64 3]] w fun e w' => e = .returned (.tuple #[.int .i64 19, .int .i64 0]) ∧ Below w.heap.size w w' := by
  have X0 := Blk.new w 70 #[.int .i64 8, .int .i64 3]
  have hu := (Below.refl w.heap.size w).alloc (Nat.le_refl _) (.cells #[.int .i64 8, .int .i64 3] 70)
  go_enter Tryz.func33, Tryz.ntmps33
  go_wp2_with fail
  generalize w.alloc (.cells #[.int .i64 8, .int .i64 3] 70) = w0 at *
  refine (feet83_any w0).mono ?_; rintro e w1 ⟨⟨s, rfl⟩, hb⟩
  have X1 := X0.below hb X0.lt
  have x0 := X1.cell 0
  have x1 := X1.cell 1
  simp at x0 x1
  go_wp2_with fail
  refine (semi83_any w1).mono ?_; rintro e w2 ⟨rfl, hb2⟩
  go_wp2_with fail
  go_ret2
  have h1 := hu.trans (hb.mono hu.size)
  exact ⟨rfl, h1.trans (hb2.mono h1.size)⟩
end Go.Proofs.YtkjkbhkcebbjdaaGreatDoor
