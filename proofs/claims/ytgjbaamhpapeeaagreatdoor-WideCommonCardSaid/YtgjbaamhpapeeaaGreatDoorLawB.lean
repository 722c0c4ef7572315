/- The law's quo and sameQuo. -/
import Derived.Test.YtgjbaamhpapeeaaGreatDoorWideV
import Derived.Test.YtgjbaamhpapeeaaGreatDoorLawA
namespace Go.Proofs.YtgjbaamhpapeeaaGreatDoor
set_option linter.unusedSimpArgs false
open Go.RowKit
set_option linter.unusedVariables false

set_option maxHeartbeats 400000 in
/-- the law's quo -/
theorem quo_any (neg : Bool) (x y : Nat) (w : World) (hx : x < LB * LB) (hy : y < LB * LB) :
    Calls Tryz.prog 32 #[.bool neg, .int .u64 x, .int .u64 y] w fun e w' => QVal neg x y e w' ∧ Below w.heap.size w w' := by
  have hu : Below w.heap.size w (w.alloc (.cells #[.bool false, .slice none 0 0, .slice none 0 0] 25)) := (Below.refl _ _).alloc (Nat.le_refl _) _
  have hbl := Blk.new w 25 #[.bool false, .slice none 0 0, .slice none 0 0]
  go_enter Tryz.func32, Tryz.ntmps32
  go_wp2_with fail
  refine (rOf_any x _ hx).mono ?_; rintro e w1 ⟨⟨A1, c1, rfl, k1, k2, k3⟩, hb1⟩
  have K1 : Sl (Arg w1 A1 (limbs x).length c1 (limbs x)) := ⟨⟨k3, k1, k2⟩⟩
  clear k1 k2 k3
  have hbl1 := hbl.below hb1 hbl.lt
  have hu1 := hu.trans (hb1.mono hu.size)
  go_wp2_with fail
  refine (rOf_any y _ hy).mono ?_; rintro e w2 ⟨⟨A2, c2, rfl, k1, k2, k3⟩, hb2⟩
  have K2 : Sl (Arg w2 A2 (limbs y).length c2 (limbs y)) := ⟨⟨k3, k1, k2⟩⟩
  have K3 : Sl _ := ⟨K1.out.below hb2⟩
  clear k1 k2 k3
  have hbl2 := hbl1.below hb2 hbl1.lt
  have hu2 := hu1.trans (hb2.mono hu1.size)
  have r0 := hbl2.cell 0
  have r1 := hbl2.cell 1
  have r2 := hbl2.cell 2
  have f0 := hbl2.frozen 0
  have f1 := hbl2.frozen 1
  have f2 := hbl2.frozen 2
  simp at r0 r1 r2
  have HBL : Sl _ := ⟨hbl2⟩
  clear hbl hbl1 hbl2
  go_wp2_with fail
  refine bodyPost_ret (results_cell_row rfl _ _ w.heap.size _ _ _ _ rfl (HBL.out.three _ _ _) Tryz.underlying25 rfl (by kernel_rfl)) rfl ?_
  exact ⟨⟨A1, c1, A2, c2, rfl, K3.out.three HBL.out ni1 ni2 ni2 _ _ _, K2.out.three HBL.out ni1 ni2 ni2 _ _ _⟩, below_three hu2 (Nat.le_refl _) _ _ _⟩

set_option maxHeartbeats 400000 in
/-- the law's sameQuo, of two fractions that are equal -/
theorem sameQuo_any (p q : QV) (w : World) (hp : p.ok w) (hq : q.ok w) (h1 : p.n ≤ 4294967296) (h2 : p.m ≤ 4294967296) (h3 : q.n ≤ 4294967296) (h4 : q.m ≤ 4294967296) (hs : p.neg = q.neg) (ha : p.la = q.la) (hb : p.lb = q.lb) :
    Calls Tryz.prog 12 #[p.val, q.val] w fun e w' => e = .returned (.bool true) ∧ Below w.heap.size w w' := by
  unfold QV.val qv
  rw [hs]
  have hu : Below w.heap.size w ((w.alloc (.cells #[.bool q.neg, .slice p.A p.n p.c, .slice p.B p.m p.d] 25)).alloc (.cells #[.bool q.neg, .slice q.A q.n q.c, .slice q.B q.m q.d] 25)) := ((Below.refl _ _).alloc (Nat.le_refl _) _).alloc (by simp) _
  have S1 := same_any p.A q.A p.n q.n p.c q.c p.la q.la _ (hp.num.1.below hu) (hq.num.1.below hu) h1 h3
  have S2 := fun k => same_any p.B q.B p.m q.m p.d q.d p.lb q.lb _ ((hp.den.1.below hu).drewN k) ((hq.den.1.below hu).drewN k) h2 h4
  rw [decide_eq_true ha] at S1
  simp only [decide_eq_true hb] at S2
  have T1 : Sl _ := ⟨S1⟩
  have T2 : Sl _ := ⟨S2⟩
  clear S1 S2 hp hq hs ha hb
  generalize q.neg = ng at *
  rcases ng with _ | _
  all_goals (
    go_enter Tryz.func12, Tryz.ntmps12
    go_wp2_with fail
    refine T1.out.mono ?_; rintro e w' ⟨rfl, k1, rfl⟩
    go_wp2_with fail
    refine (T2.out k1).mono ?_; rintro e w' ⟨rfl, k2, rfl⟩
    go_wp2_with fail
    go_ret
    exact ⟨rfl, below_drewN hu (k1 + k2)⟩)
end Go.Proofs.YtgjbaamhpapeeaaGreatDoor
