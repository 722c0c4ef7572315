/- Package ratios: what its texts ask of the library: Split, Cut, ParseInt; read. -/
import Derived.Test.YtalodfjplegibaaGreatDoorRxD
import Derived.Test.YtalodfjplegibaaGreatDoorStrA
import Derived.Test.YtalodfjplegibaaGreatDoorShelC
import Derived.Laws.Strings
namespace Go.Proofs.YtalodfjplegibaaGreatDoor
set_option linter.unusedSimpArgs false
open Go.RowKit
set_option linter.unusedVariables false

/-- what ParseInt, Split and Cut ask of the world -/
def ParX (w : World) : Prop := ((∃ m : Int, w.cell? ⟨2, 0, none⟩ = some (.int .i64 m)) ∧ (∃ ev, w.cell? ⟨3, 0, none⟩ = some ev ∧ (ev = .nilIface ∨ ∃ te pe, ev = .iface te pe)) ∧ (∃ ev, w.cell? ⟨4, 0, none⟩ = some ev ∧ (ev = .nilIface ∨ ∃ te pe, ev = .iface te pe))) ∧ 8 < w.heap.size
theorem ParX.below {w w' : World} (h : ParX w) (hb : Below w.heap.size w w') : ParX w' := by
  obtain ⟨⟨h1, h2, h3⟩, h4⟩ := h
  have hc : ∀ b, b ≤ 8 → w'.cell? ⟨b, 0, none⟩ = w.cell? ⟨b, 0, none⟩ := fun b hx => hb.cell (p := ⟨b, 0, none⟩) (by show b < _; omega)
  refine ⟨⟨?_, ?_, ?_⟩, Nat.lt_of_lt_of_le h4 hb.size⟩
  · rw [hc _ (by decide)]; exact h1
  · rw [hc _ (by decide)]; exact h2
  · rw [hc _ (by decide)]; exact h3
theorem xsplit_any (s : ByteArray) (hs : s.size ≤ 200) (w : World) (hP : ParX w) : Calls Tryz.prog 25 #[.string s, .string ⟨#[32]⟩] w fun e w' => (∃ g n, n = (xwordsB s).length ∧ e = .returned (.slice (some ⟨g, 0, none⟩) n n) ∧ Blk w' g 9 (strs (xwordsB s)).toArray ∧ w.heap.size ≤ g) ∧ Below w.heap.size w w' := by
  obtain ⟨⟨⟨m, hm⟩, _⟩, _⟩ := hP
  refine (Tryz.strings_Split s ⟨#[32]⟩ m w (by omega) hm (by decide)).mono ?_
  rintro e w' ⟨rfl, rfl⟩
  refine ⟨⟨_, _, ?_, rfl, ?_, Nat.le_refl _⟩, (Below.refl _ _).alloc (Nat.le_refl _) _⟩
  · have h := Lib.splitB_all ⟨#[32]⟩ (by decide) 0 _ s rfl
    rw [xsplit_words] at h
    exact h.symm
  · rw [xsplit_words]
    exact Blk.new _ _ _
theorem xcut_any (s : ByteArray) (c : UInt8) (hs : s.size ≤ 200) (w : World) (hP : ParX w) : Calls Tryz.prog 26 #[.string s, .string ⟨#[c]⟩] w fun e w' => e = .returned (.tuple #[.string (xB (Lib.cut s.data.toList [c]).1), .string (xB (Lib.cut s.data.toList [c]).2.1), .bool (Lib.cut s.data.toList [c]).2.2]) ∧ Below w.heap.size w w' := by
  obtain ⟨⟨⟨m, hm⟩, _⟩, _⟩ := hP
  refine (Tryz.strings_Cut s ⟨#[c]⟩ m w (by omega) hm).mono ?_
  rintro e w' ⟨rfl, n, rfl⟩
  exact ⟨rfl, below_drewN (Below.refl _ _) n⟩
set_option maxHeartbeats 1600000 in
set_option maxRecDepth 100000 in
theorem rRead_any (s : ByteArray) (hs : s.size ≤ 200) (w : World) (hP : ParX w) : Calls Tryz.prog 27 #[.string s] w fun e w' => e = .returned (.int .i64 (rdX s.data.toList)) ∧ Below w.heap.size w w' := by
  obtain ⟨⟨_, ⟨ev1, h1, h1'⟩, ⟨ev2, h2, h2'⟩⟩, _⟩ := hP
  rcases hp : Lib.parseIntB 32 s.data.toList with z | _ | _
  · have hr : rdX s.data.toList = z := by unfold rdX; rw [hp]
    have HC : Sl (Calls Tryz.prog 51 #[.string s, .int .i64 10, .int .i64 32] w fun e w' => e = .returned (.tuple #[.int .i64 z, .nilIface]) ∧ Below w.heap.size w w') := ⟨by
      refine (Tryz.strconv_ParseInt_10_at32_ok s (by omega) z hp w).mono ?_
      rintro e w' ⟨rfl, hw⟩
      refine ⟨rfl, ?_⟩
      rcases hw with rfl | ⟨t, rfl⟩
      · exact Below.refl _ _
      · exact Lib.bytesWorld_below _ _ _⟩
    rw [hr]
    clear h1 h1' h2 h2' hp hr hs
    go_enter Tryz.func27, Tryz.ntmps27
    go_wp2_with fail
    refine HC.out.mono ?_; rintro e w1 ⟨rfl, hb⟩
    go_wp2_with fail
    go_ret
    exact ⟨rfl, hb⟩
  · have hr : rdX s.data.toList = 0 := by unfold rdX; rw [hp]
    have HC : Sl (Calls Tryz.prog 51 #[.string s, .int .i64 10, .int .i64 32] w fun e w' => (∃ k te pe, e = .returned (.tuple #[.int .i64 k, .iface te pe])) ∧ Below w.heap.size w w') := ⟨by
      refine (Tryz.strconv_ParseInt_10_at32_syntax s (by omega) hp ev1 w h1 h1').mono ?_
      rintro e w' ⟨N, rfl, _, _, hb⟩
      exact ⟨⟨_, _, _, rfl⟩, hb⟩⟩
    rw [hr]
    clear h1 h1' h2 h2' hp hr hs
    go_enter Tryz.func27, Tryz.ntmps27
    go_wp2_with fail
    refine HC.out.mono ?_; rintro e w1 ⟨⟨k, te, pe, rfl⟩, hb⟩
    go_wp2_with fail
    go_ret
    exact ⟨rfl, hb⟩
  · have hr : rdX s.data.toList = 0 := by unfold rdX; rw [hp]
    have HC : Sl (Calls Tryz.prog 51 #[.string s, .int .i64 10, .int .i64 32] w fun e w' => (∃ k te pe, e = .returned (.tuple #[.int .i64 k, .iface te pe])) ∧ Below w.heap.size w w') := ⟨by
      refine (Tryz.strconv_ParseInt_10_at32_range s (by omega) hp ev2 w h2 h2').mono ?_
      rintro e w' ⟨N, rfl, _, _, hb⟩
      exact ⟨⟨_, _, _, rfl⟩, hb⟩⟩
    rw [hr]
    clear h1 h1' h2 h2' hp hr hs
    go_enter Tryz.func27, Tryz.ntmps27
    go_wp2_with fail
    refine HC.out.mono ?_; rintro e w1 ⟨⟨k, te, pe, rfl⟩, hb⟩
    go_wp2_with fail
    go_ret
    exact ⟨rfl, hb⟩
end Go.Proofs.YtalodfjplegibaaGreatDoor
