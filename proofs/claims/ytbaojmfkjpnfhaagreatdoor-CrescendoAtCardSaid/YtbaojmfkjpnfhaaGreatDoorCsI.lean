/- Package spec: (*checker).coupler on the example's coupler (an octave within a division). -/
import Derived.Test.YtbaojmfkjpnfhaaGreatDoorCsH
namespace Go.Proofs.YtbaojmfkjpnfhaaGreatDoor
set_option linter.unusedSimpArgs false
open Go.RowKit
set_option linter.unusedVariables false

set_option maxHeartbeats 1600000 in
set_option maxRecDepth 100000 in
theorem coupler_oct {w : World} {g b n : Nat} {l : List (List UInt8)} (h : Chk w g b n l) (nm : ByteArray) (A : Option Addr) (nd cd : Nat) (hd : w.cell? ⟨g, 0, none⟩ = some (.slice A nd cd)) (hnd : 1 ≤ nd) (hnd2 : nd ≤ 1000) (hn : n ≤ 1000000) (hb : nmB nm = true) (hk : (keyN ⟨#[99, 111, 117, 112, 108, 101, 114]⟩ nm).data.toList ∉ l) :
    Calls Tryz.prog 118 #[.pointer (some ⟨g, 0, none⟩), .agg #[.string nm, .int .i64 0, .int .i64 0, .int .i64 12, .int .i64 0, .bool false]] w fun e w' =>
      e = .returned (.int .i64 0) ∧ Chk w' g b (n + 1) ((keyN ⟨#[99, 111, 117, 112, 108, 101, 114]⟩ nm).data.toList :: l) ∧ Mv b w w' := by
  have X0 := Blk.new w 102 #[.string nm, .int .i64 0, .int .i64 0, .int .i64 12, .int .i64 0, .bool false]
  have hbl := (Below.refl w.heap.size w).alloc (Nat.le_refl _) (.cells #[.string nm, .int .i64 0, .int .i64 0, .int .i64 12, .int .i64 0, .bool false] 102)
  have hC := h.alloc (.cells #[.string nm, .int .i64 0, .int .i64 0, .int .i64 12, .int .i64 0, .bool false] 102)
  have hd1 := (hbl.cell (p := ⟨g, 0, none⟩) h.lt).trans hd
  have HX : Sl _ := ⟨X0⟩
  have HBL : Sl _ := ⟨hbl⟩
  have HLT : Sl _ := ⟨h.nm.lt⟩
  have HD : Sl _ := ⟨hd1⟩
  have HG : Sl _ := ⟨And.intro hC.lt h.ne⟩
  have HN : Sl _ := ⟨named_new hC ⟨#[99, 111, 117, 112, 108, 101, 114]⟩ nm (by decide) hn hb hk⟩
  clear X0 hbl hC hd hd1 hk hb h
  have q1 : (decide ((0 : Int) ≤ 0) && decide ((0 : Int) ≤ (nd : Int) - 1)) = true := by rw [decide_eq_true (by omega : (0 : Int) ≤ (nd : Int) - 1)]; rfl
  have HQ : Sl _ := ⟨q1⟩
  clear q1
  go_enter Tryz.func118, Tryz.ntmps118
  go_wp2_with fail
  refine HN.out.mono ?_; rintro e w1 ⟨rfl, hC1, hm1⟩
  have HC1 : Sl _ := ⟨hC1⟩
  have HM1 : Sl _ := ⟨hm1⟩
  have X1 := HX.out.mv hm1 (by have := HLT.out; omega)
  have x1 := X1.cell 1
  have x2 := X1.cell 2
  have x3 := X1.cell 3
  have x4 := X1.cell 4
  have x5 := X1.cell 5
  have xd : w1.cell? ⟨g, 0, none⟩ = some (.slice A nd cd) := (cell_mv hm1 HG.out.1 HG.out.2).trans HD.out
  simp at x1 x2 x3 x4 x5
  clear hC1 hm1 X1
  go_wp2_with fail
  refine (within_any 0 0 _ w1).mono ?_; rintro e w2 ⟨rfl, rfl⟩
  rw [HQ.out]
  go_wp2_with fail
  refine (within_any 0 0 _ _).mono ?_; rintro e w3 ⟨rfl, rfl⟩
  rw [HQ.out]
  go_wp2_with fail
  refine (within_any 0 0 2 _).mono ?_; rintro e w4 ⟨rfl, rfl⟩
  go_wp2_with fail
  go_ret
  exact ⟨rfl, HC1.out, Mv.trans (Mv.below HBL.out) HM1.out⟩
end Go.Proofs.YtbaojmfkjpnfhaaGreatDoor
