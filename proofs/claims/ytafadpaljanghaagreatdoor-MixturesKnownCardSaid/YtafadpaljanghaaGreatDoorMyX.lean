/- The law of chapter 11: Example. -/
import Derived.Test.YtafadpaljanghaaGreatDoorMyW
import Derived.Test.YtafadpaljanghaaGreatDoorHld
namespace Go.Proofs.YtafadpaljanghaaGreatDoor
set_option linter.unusedSimpArgs false
open Go.RowKit
set_option linter.unusedVariables false

def exL (g : Nat) : List Bk := [⟨36, some ⟨g + 1, 0, none⟩, 3, 3, [24, 31, 36]⟩, ⟨60, some ⟨g + 2, 0, none⟩, 3, 3, [19, 24, 31]⟩, ⟨84, some ⟨g + 3, 0, none⟩, 3, 3, [12, 19, 24]⟩]
theorem Reads.of_blk {w : World} {g : Nat} {t : TypeId} {cs : Array Value} (h : Blk w g t cs) {size n : Nat} (hn : cs.size = n * size) : Reads w w.heap.size size (some ⟨g, 0, none⟩) n cs.toList := by
  refine ⟨by simpa using hn, fun _ => ⟨_, rfl, h.lt, fun j u hu => ?_⟩⟩
  have e : (⟨g, 0, none⟩ : Addr).add j = ⟨g, j, none⟩ := by
    unfold Addr.add
    by_cases h : j = 0
    · subst h; simp
    · simp [h]
  rw [e, h.cell]
  simpa using hu
theorem II.of_blk {w : World} {g : Nat} {t : TypeId} {l : List Int} (h : Blk w g t (l.map iv).toArray) : II w (some ⟨g, 0, none⟩) l.length l := ⟨rfl, by
  have := Reads.of_blk h (size := 1) (n := l.length) (by simp)
  simpa using this⟩
theorem ex_mxa {W : World} {g : Nat} {t1 t2 t3 t4 : TypeId} (b1 : Blk W (g + 1) t1 #[.int .i64 24, .int .i64 31, .int .i64 36]) (b2 : Blk W (g + 2) t2 #[.int .i64 19, .int .i64 24, .int .i64 31]) (b3 : Blk W (g + 3) t3 #[.int .i64 12, .int .i64 19, .int .i64 24])
    (b4 : Blk W (g + 4) t4 #[.int .i64 36, .slice (some ⟨g + 1, 0, none⟩) 3 3, .int .i64 60, .slice (some ⟨g + 2, 0, none⟩) 3 3, .int .i64 84, .slice (some ⟨g + 3, 0, none⟩) 3 3]) : MXA W (some ⟨g + 4, 0, none⟩) 3 3 (exL g) := by
  refine ⟨⟨rfl, Reads.of_blk b4 (size := 2) (n := 3) rfl, fun b hb => ?_⟩, ⟨Nat.le_refl _, by decide⟩, fun b hb => ?_, fun b hb => ?_, fun b hb => ?_⟩ <;> (unfold exL at hb; simp only [List.mem_cons, List.not_mem_nil, or_false] at hb; rcases hb with rfl | rfl | rfl)
  · exact II.of_blk (l := [24, 31, 36]) b1
  · exact II.of_blk (l := [19, 24, 31]) b2
  · exact II.of_blk (l := [12, 19, 24]) b3
  all_goals first | (simp only [i64]; omega) | (simp only [maxLen]; omega) | (intro z hz; simp at hz; rcases hz with rfl | rfl | rfl <;> exact ⟨by decide, by decide⟩)
set_option maxHeartbeats 3200000 in
set_option maxRecDepth 100000 in
theorem Example_any (w : World) : Calls Tryz.prog 19 #[] w fun e w' => e = .returned (.agg #[.int .i64 36, .int .i64 96, .slice (some ⟨w.heap.size + 4, 0, none⟩) 3 3]) ∧ MXA w' (some ⟨w.heap.size + 4, 0, none⟩) 3 3 (exL w.heap.size) ∧ Below w.heap.size w w' := by
  go_enter Tryz.func19, Tryz.ntmps19
  go_wp2_with fail
  have a0 := Blk.new w 34 #[.int .i64 36, .int .i64 96, .slice (some ⟨w.heap.size + 1 + 1 + 1 + 1, 0, none⟩) 3 3]
  have u0 := (Below.refl w.heap.size w).alloc (Nat.le_refl _) (.cells #[.int .i64 36, .int .i64 96, .slice (some ⟨w.heap.size + 1 + 1 + 1 + 1, 0, none⟩) 3 3] 34)
  have s0 : (w.alloc (.cells #[.int .i64 36, .int .i64 96, .slice (some ⟨w.heap.size + 1 + 1 + 1 + 1, 0, none⟩) 3 3] 34)).heap.size = w.heap.size + 1 := by simp
  generalize w.alloc (.cells #[.int .i64 36, .int .i64 96, .slice (some ⟨w.heap.size + 1 + 1 + 1 + 1, 0, none⟩) 3 3] 34) = W0 at *
  have a1 := Blk.new W0 3 #[.int .i64 24, .int .i64 31, .int .i64 36]
  rw [s0] at a1
  replace a0 := a0.alloc (.cells #[.int .i64 24, .int .i64 31, .int .i64 36] 3)
  have u1 := u0.alloc (by rw [s0]; omega) (.cells #[.int .i64 24, .int .i64 31, .int .i64 36] 3)
  have s1 : (W0.alloc (.cells #[.int .i64 24, .int .i64 31, .int .i64 36] 3)).heap.size = w.heap.size + 2 := by simp [s0]
  generalize W0.alloc (.cells #[.int .i64 24, .int .i64 31, .int .i64 36] 3) = W1 at *
  have a2 := Blk.new W1 3 #[.int .i64 19, .int .i64 24, .int .i64 31]
  rw [s1] at a2
  replace a0 := a0.alloc (.cells #[.int .i64 19, .int .i64 24, .int .i64 31] 3)
  replace a1 := a1.alloc (.cells #[.int .i64 19, .int .i64 24, .int .i64 31] 3)
  have u2 := u1.alloc (by rw [s1]; omega) (.cells #[.int .i64 19, .int .i64 24, .int .i64 31] 3)
  have s2 : (W1.alloc (.cells #[.int .i64 19, .int .i64 24, .int .i64 31] 3)).heap.size = w.heap.size + 3 := by simp [s1]
  generalize W1.alloc (.cells #[.int .i64 19, .int .i64 24, .int .i64 31] 3) = W2 at *
  have a3 := Blk.new W2 3 #[.int .i64 12, .int .i64 19, .int .i64 24]
  rw [s2] at a3
  replace a0 := a0.alloc (.cells #[.int .i64 12, .int .i64 19, .int .i64 24] 3)
  replace a1 := a1.alloc (.cells #[.int .i64 12, .int .i64 19, .int .i64 24] 3)
  replace a2 := a2.alloc (.cells #[.int .i64 12, .int .i64 19, .int .i64 24] 3)
  have u3 := u2.alloc (by rw [s2]; omega) (.cells #[.int .i64 12, .int .i64 19, .int .i64 24] 3)
  have s3 : (W2.alloc (.cells #[.int .i64 12, .int .i64 19, .int .i64 24] 3)).heap.size = w.heap.size + 4 := by simp [s2]
  generalize W2.alloc (.cells #[.int .i64 12, .int .i64 19, .int .i64 24] 3) = W3 at *
  have a4 := Blk.new W3 59 #[.int .i64 36, .slice (some ⟨w.heap.size + 1, 0, none⟩) 3 3, .int .i64 60, .slice (some ⟨w.heap.size + 1 + 1, 0, none⟩) 3 3, .int .i64 84, .slice (some ⟨w.heap.size + 1 + 1 + 1, 0, none⟩) 3 3]
  rw [s3] at a4
  replace a0 := a0.alloc (.cells #[.int .i64 36, .slice (some ⟨w.heap.size + 1, 0, none⟩) 3 3, .int .i64 60, .slice (some ⟨w.heap.size + 1 + 1, 0, none⟩) 3 3, .int .i64 84, .slice (some ⟨w.heap.size + 1 + 1 + 1, 0, none⟩) 3 3] 59)
  replace a1 := a1.alloc (.cells #[.int .i64 36, .slice (some ⟨w.heap.size + 1, 0, none⟩) 3 3, .int .i64 60, .slice (some ⟨w.heap.size + 1 + 1, 0, none⟩) 3 3, .int .i64 84, .slice (some ⟨w.heap.size + 1 + 1 + 1, 0, none⟩) 3 3] 59)
  replace a2 := a2.alloc (.cells #[.int .i64 36, .slice (some ⟨w.heap.size + 1, 0, none⟩) 3 3, .int .i64 60, .slice (some ⟨w.heap.size + 1 + 1, 0, none⟩) 3 3, .int .i64 84, .slice (some ⟨w.heap.size + 1 + 1 + 1, 0, none⟩) 3 3] 59)
  replace a3 := a3.alloc (.cells #[.int .i64 36, .slice (some ⟨w.heap.size + 1, 0, none⟩) 3 3, .int .i64 60, .slice (some ⟨w.heap.size + 1 + 1, 0, none⟩) 3 3, .int .i64 84, .slice (some ⟨w.heap.size + 1 + 1 + 1, 0, none⟩) 3 3] 59)
  have u4 := u3.alloc (by rw [s3]; omega) (.cells #[.int .i64 36, .slice (some ⟨w.heap.size + 1, 0, none⟩) 3 3, .int .i64 60, .slice (some ⟨w.heap.size + 1 + 1, 0, none⟩) 3 3, .int .i64 84, .slice (some ⟨w.heap.size + 1 + 1 + 1, 0, none⟩) 3 3] 59)
  have s4 : (W3.alloc (.cells #[.int .i64 36, .slice (some ⟨w.heap.size + 1, 0, none⟩) 3 3, .int .i64 60, .slice (some ⟨w.heap.size + 1 + 1, 0, none⟩) 3 3, .int .i64 84, .slice (some ⟨w.heap.size + 1 + 1 + 1, 0, none⟩) 3 3] 59)).heap.size = w.heap.size + 5 := by simp [s3]
  generalize W3.alloc (.cells #[.int .i64 36, .slice (some ⟨w.heap.size + 1, 0, none⟩) 3 3, .int .i64 60, .slice (some ⟨w.heap.size + 1 + 1, 0, none⟩) 3 3, .int .i64 84, .slice (some ⟨w.heap.size + 1 + 1 + 1, 0, none⟩) 3 3] 59) = W4 at *
  refine bodyPost_ret (results_cell_row rfl _ _ w.heap.size _ _ _ _ rfl a0 Tryz.underlying34 rfl (by kernel_rfl)) rfl ?_
  exact ⟨rfl, ex_mxa a1 a2 a3 a4, u4⟩
end Go.Proofs.YtafadpaljanghaaGreatDoor
