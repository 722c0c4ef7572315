/- Lists of strings in memory. -/
import Derived.Test.YtalodfjplegibaaGreatDoorRatI
import Derived.Laws.OwnMore
import Derived.Lib.Join
namespace Go.Proofs.YtalodfjplegibaaGreatDoor
set_option linter.unusedSimpArgs false
open Go.RowKit
set_option linter.unusedVariables false

def strs (l : List ByteArray) : List Value := l.map .string
theorem strs_snoc (l : List ByteArray) (b : ByteArray) : strs (l ++ [b]) = strs l ++ [.string b] := by unfold strs; rw [List.map_append]; rfl
theorem join_le (sep : List UInt8) (m : Nat) : ∀ l : List (List UInt8), (∀ x ∈ l, x.length ≤ m) → (Lib.join l sep).length ≤ l.length * (m + sep.length)
  | [], _ => by simp [Lib.join]
  | [a], h => by
    have := h a (by simp)
    simp [Lib.join]
    omega
  | a :: b :: l, h => by
    have h1 := h a (by simp)
    have ih := join_le sep m (b :: l) (fun x hx => h x (by simp at hx ⊢; exact .inr hx))
    have e : Lib.join (a :: b :: l) sep = a ++ (sep ++ Lib.join (b :: l) sep) := by simp [Lib.join]
    rw [e]
    simp only [List.length_append, List.length_cons] at ih ⊢
    have e2 : (l.length + 1 + 1) * (m + sep.length) = (l.length + 1) * (m + sep.length) + (m + sep.length) := by rw [Nat.add_mul, Nat.one_mul]
    omega
theorem own_some {w : World} {base n : Nat} {e : TypeId} {v : Value} {xs : List Value} (h : w.ownsRow base e 1 v n xs) (hn : 0 < n) : ∃ g cap, v = .slice (some ⟨g, 0, none⟩) n cap ∧ base ≤ g ∧ g < w.heap.size := by
  obtain ⟨_, h0 | ⟨g, cap, cur, rfl, hb, hh, hnc, _⟩⟩ := h
  · omega
  · exact ⟨g, cap, rfl, hb, Blk.lt (t := e) (cs := cur) hh⟩
theorem own_room {w : World} {base n g cap : Nat} {e : TypeId} {xs : List Value} (h : w.ownsRow base e 1 (.slice (some ⟨g, 0, none⟩) n cap) n xs) : n ≤ cap := by
  obtain ⟨_, h0 | ⟨g', cap', cur, he, _, _, hnc, _⟩⟩ := h
  · cases h0.1
  · injection he with _ _ h3
    omega
theorem info_str : ∃ i : TypeInfo, Tryz.prog.info? 9 = some i ∧ i.zero = some (.string ⟨#[]⟩) ∧ i.size = 1 ∧ i.bytes = 16 := by
  have h : (Tryz.prog.info? 9).isSome = true := by kernel_rfl
  obtain ⟨i, hi⟩ := Option.isSome_iff_exists.1 h
  have h1 : (Tryz.prog.info? 9).bind (·.zero) = some (.string ⟨#[]⟩) := by kernel_rfl
  have h2 : (Tryz.prog.info? 9).map (·.size) = some 1 := by kernel_rfl
  have h3 : (Tryz.prog.info? 9).map (·.bytes) = some 16 := by kernel_rfl
  rw [hi] at h1 h2 h3
  exact ⟨i, hi, by simpa using h1, by simpa using h2, by simpa using h3⟩
theorem reads_s1 (W : World) (T : TypeId) (m : ByteArray) : Reads (W.alloc (.cells #[.string m] T)) (W.heap.size + 1) 1 (some ⟨W.heap.size, 0, none⟩) 1 [.string m] := by
  refine ⟨rfl, fun _ => ⟨_, rfl, Nat.lt_succ_self _, fun j u hu => ?_⟩⟩
  have hb := Blk.new W T #[.string m]
  have e : (⟨W.heap.size, 0, none⟩ : Addr).add j = ⟨W.heap.size, j, none⟩ := by
    unfold Addr.add
    by_cases h : j = 0
    · subst h; simp
    · simp [h]
  rw [e, hb.cell]
  simpa using hu
end Go.Proofs.YtalodfjplegibaaGreatDoor
