/- Package spec: (*checker).division, (*checker).rank where all is well. -/
import Derived.Test.YtbaojmfkjpnfhaaGreatDoorCsD
import Derived.Test.YtbaojmfkjpnfhaaGreatDoorHld
namespace Go.Proofs.YtbaojmfkjpnfhaaGreatDoor
set_option linter.unusedSimpArgs false
open Go.RowKit
set_option linter.unusedVariables false

theorem NM.mv {w w' : World} {b n g : Nat} {l : List (List UInt8)} (h : NM w b n l) (hm : Mv g w w') (hne : b ≠ g) : NM w' b n l := h.kept (hm.block b h.lt hne)
theorem cell_mv {w w' : World} {g b : Nat} {o : Nat} (hm : Mv b w w') (hg : g < w.heap.size) (hne : g ≠ b) : w'.cell? ⟨g, o, none⟩ = w.cell? ⟨g, o, none⟩ := by
  unfold World.cell?
  rw [hm.block g hg hne]
/-- the checker lies in block g, its names in block b -/
structure Chk (w : World) (g b n : Nat) (l : List (List UInt8)) : Prop where
  cell : w.cell? ⟨g, 4, none⟩ = some (.map (some b))
  nm : NM w b n l
  lt : g < w.heap.size
  ne : g ≠ b
theorem Chk.alloc {w : World} {g b n : Nat} {l : List (List UInt8)} (h : Chk w g b n l) (o : Obj) : Chk (w.alloc o) g b n l := by
  have hb := (Below.refl w.heap.size w).alloc (Nat.le_refl _) o
  refine ⟨(hb.cell (p := ⟨g, 4, none⟩) h.lt).trans h.cell, h.nm.kept (hb.block b h.nm.lt), Nat.lt_of_lt_of_le h.lt hb.size, h.ne⟩
theorem Chk.below {w w' : World} {g b n : Nat} {l : List (List UInt8)} (h : Chk w g b n l) (hb : Below w.heap.size w w') : Chk w' g b n l :=
  ⟨(hb.cell (p := ⟨g, 4, none⟩) h.lt).trans h.cell, h.nm.kept (hb.block b h.nm.lt), Nat.lt_of_lt_of_le h.lt hb.size, h.ne⟩
/-- a new name is noted -/
theorem named_new {w : World} {g b n : Nat} {l : List (List UInt8)} (h : Chk w g b n l) (ks nm : ByteArray) (hks : ks.size ≤ 100) (hn : n ≤ 1000000) (hb : nmB nm = true) (hk : (keyN ks nm).data.toList ∉ l) :
    Calls Tryz.prog 158 #[.pointer (some ⟨g, 0, none⟩), .string ks, .string nm] w fun e w' => e = .returned (.int .i64 0) ∧ Chk w' g b (n + 1) ((keyN ks nm).data.toList :: l) ∧ Mv b w w' :=
  (cnamed_any g b n l ks nm w h.cell h.nm hks hn (by have := (nmB_size hb).2; unfold maxLen; omega)).mono fun e w' hh => by
    obtain ⟨h1, h2, h3⟩ := hh.2.2 hb hk
    have hm : Mv b w w' := Mv.of_grown h3 (fun k hk => by injection hk with hk; exact hk.symm)
    exact ⟨h1, ⟨(cell_mv hm h.lt h.ne).trans h.cell, h2, Nat.lt_of_lt_of_le h.lt hm.size, h.ne⟩, hm⟩
set_option maxHeartbeats 1600000 in
set_option maxRecDepth 100000 in
theorem division_ok {w : World} {g b n : Nat} {l : List (List UInt8)} (h : Chk w g b n l) (nm : ByteArray) (lo hi : Int) (hn : n ≤ 1000000) (hb : nmB nm = true) (hk : (keyN ⟨#[100, 105, 118, 105, 115, 105, 111, 110]⟩ nm).data.toList ∉ l)
    (h1 : 0 ≤ lo) (h2 : lo ≤ 127) (h3 : lo ≤ hi) (h4 : hi ≤ 127) (h5 : hi ≤ lo + 60) :
    Calls Tryz.prog 110 #[.pointer (some ⟨g, 0, none⟩), .agg #[.string nm, .int .i64 lo, .int .i64 hi]] w fun e w' =>
      e = .returned (.int .i64 0) ∧ Chk w' g b (n + 1) ((keyN ⟨#[100, 105, 118, 105, 115, 105, 111, 110]⟩ nm).data.toList :: l) ∧ Mv b w w' := by
  have X0 := Blk.new w 93 #[.string nm, .int .i64 lo, .int .i64 hi]
  have hbl := (Below.refl w.heap.size w).alloc (Nat.le_refl _) (.cells #[.string nm, .int .i64 lo, .int .i64 hi] 93)
  have hC := h.alloc (.cells #[.string nm, .int .i64 lo, .int .i64 hi] 93)
  have hlt := h.nm.lt
  have HX : Sl _ := ⟨X0⟩
  have HBL : Sl _ := ⟨hbl⟩
  have HLT : Sl _ := ⟨hlt⟩
  have HN : Sl _ := ⟨named_new hC ⟨#[100, 105, 118, 105, 115, 105, 111, 110]⟩ nm (by decide) hn hb hk⟩
  clear X0 hbl hC hlt hk hb h
  have q1 : (decide ((0 : Int) ≤ lo) && decide (lo ≤ 127)) = true := by rw [decide_eq_true h1, decide_eq_true h2]; rfl
  go_enter Tryz.func110, Tryz.ntmps110
  go_wp2_with fail
  refine HN.out.mono ?_; rintro e w1 ⟨rfl, hC1, hm1⟩
  have HC1 : Sl _ := ⟨hC1⟩
  have HM1 : Sl _ := ⟨hm1⟩
  have X1 := HX.out.mv hm1 (by have := HLT.out; omega)
  have x1 := X1.cell 1
  have x2 := X1.cell 2
  simp at x1 x2
  clear hC1 hm1 X1
  go_wp2_with fail
  refine (within_any lo 0 127 w1).mono ?_; rintro e w2 ⟨rfl, rfl⟩
  rw [q1]
  have hmin : min (127 : Int) (lo + 61 - 1) = min 127 (lo + 60) := by omega
  have q2 : ∀ z, z = min (127 : Int) (lo + 60) → (decide (lo ≤ hi) && decide (hi ≤ z)) = true := fun z hz => by rw [decide_eq_true h3, decide_eq_true (by omega)]; rfl
  have HQ2 : Sl _ := ⟨q2⟩
  clear q2
  go_wp2_with fail
  refine (within_any hi lo _ _).mono ?_; rintro e w3 ⟨rfl, rfl⟩
  rw [HQ2.out _ (by omega)]
  go_wp2_with fail
  go_ret
  exact ⟨rfl, HC1.out, Mv.trans (Mv.below HBL.out) HM1.out⟩
end Go.Proofs.YtbaojmfkjpnfhaaGreatDoor
