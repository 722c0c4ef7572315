/- Package spec: (*checker).rank where all is well. -/
import Derived.Test.YtbaojmfkjpnfhaaGreatDoorCsE
namespace Go.Proofs.YtbaojmfkjpnfhaaGreatDoor
set_option linter.unusedSimpArgs false
open Go.RowKit
set_option linter.unusedVariables false

set_option maxHeartbeats 1600000 in
set_option maxRecDepth 100000 in
theorem rank_ok {w : World} {g b n : Nat} {l : List (List UInt8)} (h : Chk w g b n l) (nm : ByteArray) (kd fn fd lo ct : Int) (hn : n ≤ 1000000) (hb : nmB nm = true) (hk : (keyN ⟨#[114, 97, 110, 107]⟩ nm).data.toList ∉ l)
    (h1 : 1 ≤ kd) (h2 : kd ≤ 4) (hf : vF fn fd) (h3 : 1 ≤ ct) (h4 : ct ≤ 97) (h5 : 0 ≤ lo) (h6 : lo ≤ 128 - ct) :
    Calls Tryz.prog 112 #[.pointer (some ⟨g, 0, none⟩), .agg #[.string nm, .int .i64 kd, .int .i64 fn, .int .i64 fd, .int .i64 lo, .int .i64 ct]] w fun e w' =>
      e = .returned (.int .i64 0) ∧ Chk w' g b (n + 1) ((keyN ⟨#[114, 97, 110, 107]⟩ nm).data.toList :: l) ∧ Mv b w w' := by
  have X0 := Blk.new w 97 #[.string nm, .int .i64 kd, .int .i64 fn, .int .i64 fd, .int .i64 lo, .int .i64 ct]
  have hbl := (Below.refl w.heap.size w).alloc (Nat.le_refl _) (.cells #[.string nm, .int .i64 kd, .int .i64 fn, .int .i64 fd, .int .i64 lo, .int .i64 ct] 97)
  have hC := h.alloc (.cells #[.string nm, .int .i64 kd, .int .i64 fn, .int .i64 fd, .int .i64 lo, .int .i64 ct] 97)
  have hlt := h.nm.lt
  have HX : Sl _ := ⟨X0⟩
  have HBL : Sl _ := ⟨hbl⟩
  have HLT : Sl _ := ⟨hlt⟩
  have HN : Sl _ := ⟨named_new hC ⟨#[114, 97, 110, 107]⟩ nm (by decide) hn hb hk⟩
  have HF : Sl _ := ⟨fun W : World => footage_any fn fd W⟩
  rw [decide_eq_true hf] at HF
  clear X0 hbl hC hlt hk hb h hf
  have q1 : (decide ((1 : Int) ≤ kd) && decide (kd ≤ 4)) = true := by rw [decide_eq_true h1, decide_eq_true h2]; rfl
  have q3 : (decide ((1 : Int) ≤ ct) && decide (ct ≤ 97)) = true := by rw [decide_eq_true h3, decide_eq_true h4]; rfl
  have q4 : (decide ((0 : Int) ≤ lo) && decide (lo ≤ 128 - ct)) = true := by rw [decide_eq_true h5, decide_eq_true h6]; rfl
  have HQ : Sl _ := ⟨And.intro q1 (And.intro q3 q4)⟩
  clear q1 q3 q4
  go_enter Tryz.func112, Tryz.ntmps112
  go_wp2_with fail
  refine HN.out.mono ?_; rintro e w1 ⟨rfl, hC1, hm1⟩
  have HC1 : Sl _ := ⟨hC1⟩
  have HM1 : Sl _ := ⟨hm1⟩
  have X1 : Sl (Blk w1 w.heap.size 97 #[.string nm, .int .i64 kd, .int .i64 fn, .int .i64 fd, .int .i64 lo, .int .i64 ct]) := ⟨HX.out.mv hm1 (by have := HLT.out; omega)⟩
  have x1 := X1.out.cell 1
  have x2 := X1.out.cell 2
  have x3 := X1.out.cell 3
  have x4 := X1.out.cell 4
  have x5 := X1.out.cell 5
  simp at x1 x2 x3 x4 x5
  clear hC1 hm1
  go_wp2_with fail
  refine (within_any kd 1 4 w1).mono ?_; rintro e w2 ⟨rfl, rfl⟩
  rw [HQ.out.1]
  go_wp2_with fail
  refine (HF.out _).mono ?_; rintro e w3 ⟨rfl, hb3⟩
  have HB3 : Sl _ := ⟨hb3⟩
  have X3 := X1.out.below hb3 X1.out.lt
  clear x1 x2 x3 x4 x5
  have x4 := X3.cell 4
  have x5 := X3.cell 5
  simp at x4 x5
  clear hb3 X3
  go_wp2_with fail
  refine (within_any ct 1 97 _).mono ?_; rintro e w4 ⟨rfl, rfl⟩
  rw [HQ.out.2.1]
  go_wp2_with fail
  refine (within_any lo 0 _ _).mono ?_; rintro e w5 ⟨rfl, rfl⟩
  rw [HQ.out.2.2]
  go_wp2_with fail
  go_ret
  exact ⟨rfl, HC1.out.below HB3.out, Mv.trans (Mv.trans (Mv.below HBL.out) HM1.out) (Mv.below HB3.out)⟩
end Go.Proofs.YtbaojmfkjpnfhaaGreatDoor
