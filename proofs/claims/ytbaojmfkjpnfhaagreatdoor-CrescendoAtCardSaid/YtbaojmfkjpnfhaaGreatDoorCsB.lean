/- A map of names (map[string]bool, true wherever it holds a key): what it holds, a look-up, a new name. -/
import Derived.Test.YtbaojmfkjpnfhaaGreatDoorCsA
import Derived.Maps.Own
import Derived.Maps.Views
import Derived.StringKeys
namespace Go.Proofs.YtbaojmfkjpnfhaaGreatDoor
set_option linter.unusedSimpArgs false
open Go.RowKit Go.Maps Go.WideMaps
set_option linter.unusedVariables false

theorem law_str : Keyed Tryz.prog 9 := string_keyed Tryz.underlying9
/-- block b is a map of at most n names, those of l -/
def NM (w : World) (b n : Nat) (l : List (List UInt8)) : Prop := ∃ D : DataW Unit, w.ownsMap Tryz.prog 9 (plainElem Tryz.prog 4) b n D ∧ IsMap D ∧
  ∀ s : ByteArray, s.size ≤ maxLen → D.atKey (.string s.data.toList) (.lit (.bool false)) = .lit (.bool (decide (s.data.toList ∈ l)))
theorem elem_bool {P : Program} {e : TypeId} (he : P.underlying e = some .bool) {v : Value} {q : Bool} {ps : List MemPlace} (h : plainElem (H := Unit) P e v = some (.lit (.bool q), ps)) : v = .bool q := by
  unfold plainElem at h
  rw [he] at h
  cases v <;> simp at h
  rw [h.1]
theorem bytes_data {a b : ByteArray} (h : a.data.toList = b.data.toList) : a = b := by
  cases a; cases b
  simpa using h
theorem NM.made (w : World) : NM (w.alloc (.map #[] 0)) w.heap.size 0 [] :=
  ⟨.map [], World.ownsMap_made w _ _ _, ⟨[], rfl⟩, fun s _ => by simp [DataW.atKey]⟩
theorem NM.lt {w : World} {b n : Nat} {l : List (List UInt8)} (h : NM w b n l) : b < w.heap.size := by
  obtain ⟨D, h1, _⟩ := h
  exact h1.lt
theorem NM.kept {w w' : World} {b n : Nat} {l : List (List UInt8)} (h : NM w b n l) (hb : w'.heap[b]? = w.heap[b]?) : NM w' b n l := by
  obtain ⟨D, ⟨es, clock, h1, h2⟩, h3⟩ := h
  exact ⟨D, ⟨es, clock, by rw [hb]; exact h1, h2⟩, h3⟩
set_option maxRecDepth 10000 in
theorem NM.look {w : World} {b n : Nat} {l : List (List UInt8)} (h : NM w b n l) {s : ByteArray} (hs : s.size ≤ maxLen) :
    (Instr.lookup 177 (.map (some b)) (.string s) false).run Tryz.prog w = .ok (.bool (decide (s.data.toList ∈ l))) w := by
  obtain ⟨D, h1, h2, h3⟩ := h
  obtain ⟨v, ps, hrun, hv⟩ := h1.lookup law_str Tryz.underlying177 (e := 4) (z := .bool false) (by kernel_rfl) (plainElem_bool Tryz.underlying4 false) (keyOf_string_mk Tryz.underlying9 hs)
  rw [h3 s hs] at hv
  rw [hrun, elem_bool Tryz.underlying4 hv]
set_option maxRecDepth 10000 in
theorem NM.put {w : World} {b n : Nat} {l : List (List UInt8)} (h : NM w b n l) {s : ByteArray} (hs : s.size ≤ maxLen) (hn : n < maxLen) :
    ∃ w', (Instr.mapUpdate 177 (.map (some b)) (.string s) (.bool true)).run Tryz.prog w = .ok () w' ∧ NM w' b (n + 1) (s.data.toList :: l) ∧ w.grownBy w' (some b) := by
  obtain ⟨D, h1, h2, h3⟩ := h
  obtain ⟨w', hrun, h4, h5⟩ := h1.update law_str Tryz.underlying177 hn (keyOf_string_mk Tryz.underlying9 hs) (plainElem_bool Tryz.underlying4 true)
  refine ⟨w', hrun, ⟨_, h4, ?_, fun u hu => ?_⟩, h5⟩
  · obtain ⟨es, rfl⟩ := h2
    exact ⟨_, DataW.put_eq ..⟩
  · by_cases hus : u = s
    · subst hus
      rw [atKey_put_same h2 (by exact trivial)]
      rw [decide_eq_true (List.mem_cons_self)]
    · rw [atKey_put_other (fun e => hus (by injection e with e; exact bytes_data e)), h3 u hu]
      have hne : u.data.toList ≠ s.data.toList := fun e => hus (bytes_data e)
      congr 2
      rw [decide_eq_decide]
      exact ⟨fun h => List.mem_cons_of_mem _ h, fun h => by
        rcases List.mem_cons.1 h with h | h
        · exact absurd h hne
        · exact h⟩
end Go.Proofs.YtbaojmfkjpnfhaaGreatDoor
