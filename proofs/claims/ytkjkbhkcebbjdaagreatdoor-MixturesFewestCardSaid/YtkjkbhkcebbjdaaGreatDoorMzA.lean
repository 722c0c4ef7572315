/- The law of chapter 11: awake. -/
import Derived.Test.YtkjkbhkcebbjdaaGreatDoorMyZ
import Derived.Test.YtkjkbhkcebbjdaaGreatDoorMixO
namespace Go.Proofs.YtkjkbhkcebbjdaaGreatDoor
set_option linter.unusedSimpArgs false
open Go.RowKit
set_option linter.unusedVariables false

theorem II.lit (w : World) (l : List Int) (t : TypeId) : II (w.alloc (.cells (l.map iv).toArray t)) (some ⟨w.heap.size, 0, none⟩) l.length l := II.of_blk (Blk.new w t _)
set_option maxHeartbeats 6400000 in
set_option maxRecDepth 100000 in
theorem awake11_any (w : World) : Calls Tryz.prog 13 #[] w fun e w' => e = .returned (.bool true) ∧ Below w.heap.size w w' := by
  go_enter Tryz.func13, Tryz.ntmps13
  go_wp2_with fail
  refine (Example_any w).mono ?_; rintro e w1 ⟨rfl, hM, hb⟩
  have HU : Sl (Below w.heap.size w w1) := ⟨hb⟩
  have HRO : Sl _ := ⟨Row_any 36 96 _ 3 3 _ 60 w1 hM ⟨by decide, by decide⟩ ⟨by decide, by decide⟩⟩
  clear hM hb
  go_wp2_with fail
  refine HRO.out.mono ?_; rintro e w2 ⟨⟨A, c, he, hii⟩, hb⟩
  rw [ex_rerr, ex_rows] at he
  rw [ex_rows] at hii
  subst he
  have HR : Sl (II w2 A 3 [79, 84, 91]) := ⟨hii⟩
  replace HU : Sl (Below w.heap.size w w2) := ⟨HU.out.trans (hb.mono HU.out.size)⟩
  clear hii hb HRO
  go_wp2_with fail
  refine (Semi83_any w2).mono ?_; rintro e w3 ⟨rfl, hb⟩
  replace HU : Sl (Below w.heap.size w w3) := ⟨HU.out.trans (hb.mono HU.out.size)⟩
  replace HR : Sl (II w3 A 3 [79, 84, 91]) := ⟨HR.out.below hb⟩
  clear hb
  have hl : II (w3.alloc (.cells #[.int .i64 24, .int .i64 31, .int .i64 36] 3)) (some ⟨w3.heap.size, 0, none⟩) 3 [24, 31, 36] := II.lit w3 [24, 31, 36] 3
  have hu : Below w3.heap.size w3 (w3.alloc (.cells #[.int .i64 24, .int .i64 31, .int .i64 36] 3)) := (Below.refl _ _).alloc (Nat.le_refl _) _
  have HPL : Sl _ := ⟨planEx_any _ 3 _ hl ⟨Nat.le_refl _, by decide⟩⟩
  replace HU : Sl (Below w.heap.size w (w3.alloc (.cells #[.int .i64 24, .int .i64 31, .int .i64 36] 3))) := ⟨HU.out.trans (hu.mono HU.out.size)⟩
  replace HR : Sl (II (w3.alloc (.cells #[.int .i64 24, .int .i64 31, .int .i64 36] 3)) A 3 [79, 84, 91]) := ⟨HR.out.below hu⟩
  clear hl hu
  go_wp2_with fail
  refine HPL.out.mono ?_; rintro e w4 ⟨⟨g, cap, A1, c1, A2, c2, rfl, hmx⟩, hb⟩
  replace HU : Sl (Below w.heap.size w w4) := ⟨HU.out.trans (hb.mono HU.out.size)⟩
  replace HR : Sl (II w4 A 3 [79, 84, 91]) := ⟨HR.out.below hb⟩
  have hu : Below w4.heap.size w4 (w4.alloc (.cells #[.int .i64 36, .int .i64 96, .slice (some ⟨g, 0, none⟩) 2 cap] 24)) := (Below.refl _ _).alloc (Nat.le_refl _) _
  have X5 : Sl _ := ⟨Blk.new w4 24 #[.int .i64 36, .int .i64 96, .slice (some ⟨g, 0, none⟩) 2 cap]⟩
  have HMX : Sl _ := ⟨hmx.below hu⟩
  replace HR : Sl (II (w4.alloc (.cells #[.int .i64 36, .int .i64 96, .slice (some ⟨g, 0, none⟩) 2 cap] 24)) A 3 [79, 84, 91]) := ⟨HR.out.below hu⟩
  replace HU : Sl (Below w.heap.size w (w4.alloc (.cells #[.int .i64 36, .int .i64 96, .slice (some ⟨g, 0, none⟩) 2 cap] 24))) := ⟨HU.out.trans (hu.mono HU.out.size)⟩
  clear hmx hb hu HPL
  go_wp2_with fail
  have s5 : (w4.alloc (.cells #[.int .i64 36, .int .i64 96, .slice (some ⟨g, 0, none⟩) 2 cap] 24)).heap.size = w4.heap.size + 1 := by simp
  generalize w4.alloc (.cells #[.int .i64 36, .int .i64 96, .slice (some ⟨g, 0, none⟩) 2 cap] 24) = w5 at *
  have hl := II.lit w5 [79, 84, 91] 3
  rw [s5] at hl
  have hu : Below w5.heap.size w5 (w5.alloc (.cells #[.int .i64 79, .int .i64 84, .int .i64 91] 3)) := (Below.refl _ _).alloc (Nat.le_refl _) _
  have HSI : Sl _ := ⟨sameInts11_any A (some ⟨w4.heap.size + 1, 0, none⟩) 3 c 3 [79, 84, 91] (w5.alloc (.cells #[.int .i64 79, .int .i64 84, .int .i64 91] 3)) (HR.out.below hu) hl (by decide)⟩
  replace HU : Sl (Below w.heap.size w (w5.alloc (.cells #[.int .i64 79, .int .i64 84, .int .i64 91] 3))) := ⟨HU.out.trans (hu.mono HU.out.size)⟩
  replace X5 : Sl (Blk (w5.alloc (.cells #[.int .i64 79, .int .i64 84, .int .i64 91] 3)) w4.heap.size _ _) := ⟨X5.out.below hu X5.out.lt⟩
  replace HMX : Sl (MX (w5.alloc (.cells #[.int .i64 79, .int .i64 84, .int .i64 91] 3)) (some ⟨g, 0, none⟩) 2 _) := ⟨HMX.out.below hu⟩
  clear hl hu s5 HR
  refine HSI.out.mono ?_; rintro e w6 ⟨rfl, m, rfl⟩
  clear HSI
  replace X5 : Sl (Blk ((w5.alloc (.cells #[.int .i64 79, .int .i64 84, .int .i64 91] 3)).drewN m) w4.heap.size _ _) := ⟨X5.out.drewN m⟩
  replace HMX : Sl (MX ((w5.alloc (.cells #[.int .i64 79, .int .i64 84, .int .i64 91] 3)).drewN m) (some ⟨g, 0, none⟩) 2 _) := ⟨HMX.out.below (below_drewN (Below.refl _ _) m)⟩
  replace HU : Sl (Below w.heap.size w ((w5.alloc (.cells #[.int .i64 79, .int .i64 84, .int .i64 91] 3)).drewN m)) := ⟨below_drewN HU.out m⟩
  generalize (w5.alloc (.cells #[.int .i64 79, .int .i64 84, .int .i64 91] 3)).drewN m = w7 at *
  have x2 := X5.out.cell 2
  simp at x2
  obtain ⟨ad, e, _, y2, y3⟩ := HMX.out.cells (i := 1) rfl
  injection e with e
  subst e
  have y2' : w7.cell? ⟨g, 2, none⟩ = some (.int .i64 85) := by simpa [Addr.add] using y2
  have y3' : w7.cell? ⟨g, 3, none⟩ = some (.slice A2 3 c2) := by simpa [Addr.add] using y3
  have HII : Sl (II w7 A2 3 [19, 24, 24]) := ⟨HMX.out.rk ⟨85, A2, 3, c2, [19, 24, 24]⟩ (by simp)⟩
  have hl := II.lit w7 [19, 24, 24] 3
  have hu : Below w7.heap.size w7 (w7.alloc (.cells #[.int .i64 19, .int .i64 24, .int .i64 24] 3)) := (Below.refl _ _).alloc (Nat.le_refl _) _
  have HSI : Sl _ := ⟨sameInts11_any A2 (some ⟨w7.heap.size, 0, none⟩) 3 c2 3 [19, 24, 24] (w7.alloc (.cells #[.int .i64 19, .int .i64 24, .int .i64 24] 3)) (HII.out.below hu) hl (by decide)⟩
  replace HU : Sl (Below w.heap.size w (w7.alloc (.cells #[.int .i64 19, .int .i64 24, .int .i64 24] 3))) := ⟨HU.out.trans (hu.mono HU.out.size)⟩
  clear hl hu HII HMX X5 y2 y3
  go_wp2_with fail
  refine HSI.out.mono ?_; rintro e w8 ⟨rfl, m2, rfl⟩
  go_wp2_with fail
  go_ret
  exact ⟨rfl, below_drewN HU.out m2⟩
end Go.Proofs.YtkjkbhkcebbjdaaGreatDoor
