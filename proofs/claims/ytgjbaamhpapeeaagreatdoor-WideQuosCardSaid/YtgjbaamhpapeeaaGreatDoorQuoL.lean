/- Fractions: the reference's turned, QSub. -/
import Derived.Test.YtgjbaamhpapeeaaGreatDoorQuoK
namespace Go.Proofs.YtgjbaamhpapeeaaGreatDoor
set_option linter.unusedSimpArgs false
open Go.RowKit
set_option linter.unusedVariables false

theorem LowRes_form (ng : Bool) (a b : Nat) : ∃ n2 ln ld er, ln.length ≤ 512 ∧ ld.length ≤ 512 ∧ ∀ e w, LowRes ng a b e w = QRes n2 ln ld er e w := by
  by_cases h3 : (limbs (a / Nat.gcd a b)).length ≤ 512 ∧ (limbs (b / Nat.gcd a b)).length ≤ 512
  · refine ⟨ng && decide (a ≠ 0), limbs (a / Nat.gcd a b), limbs (b / Nat.gcd a b), 0, h3.1, h3.2, fun e w => ?_⟩
    unfold LowRes lowS
    rw [if_pos h3]
  · refine ⟨false, [], [], 3, by simp, by simp, fun e w => ?_⟩
    unfold LowRes lowS
    rw [if_neg h3]
theorem QAddRes_form (p q : QV) : ∃ n2 ln ld er, ln.length ≤ 512 ∧ ld.length ≤ 512 ∧ ∀ e w, QAddRes p q e w = QRes n2 ln ld er e w := by
  unfold QAddRes
  by_cases h : checkQ (two p q) 2 = 0
  · obtain ⟨n2, ln, ld, er, h1, h2, h3⟩ := LowRes_form (sumS p.neg (valOf p.la) (valOf p.lb) q.neg (valOf q.la) (valOf q.lb)).1 (sumS p.neg (valOf p.la) (valOf p.lb) q.neg (valOf q.la) (valOf q.lb)).2 (valOf p.lb * valOf q.lb)
    exact ⟨n2, ln, ld, er, h1, h2, fun e w => by rw [if_pos h, h3]⟩
  · exact ⟨false, [], [], checkQ (two p q) 2, by simp, by simp, fun e w => by rw [if_neg h]⟩
theorem QSubRes_form (p q : QV) : ∃ n2 ln ld er, ln.length ≤ 512 ∧ ld.length ≤ 512 ∧ ∀ e w, QSubRes p q e w = QRes n2 ln ld er e w := by
  unfold QSubRes
  by_cases h : checkQ (two p q) 2 = 0
  · obtain ⟨n2, ln, ld, er, h1, h2, h3⟩ := LowRes_form (sumS p.neg (valOf p.la) (valOf p.lb) (!q.neg) (valOf q.la) (valOf q.lb)).1 (sumS p.neg (valOf p.la) (valOf p.lb) (!q.neg) (valOf q.la) (valOf q.lb)).2 (valOf p.lb * valOf q.lb)
    exact ⟨n2, ln, ld, er, h1, h2, fun e w => by rw [if_pos h, h3]⟩
  · exact ⟨false, [], [], checkQ (two p q) 2, by simp, by simp, fun e w => by rw [if_neg h]⟩
theorem QMulRes_form (p q : QV) : ∃ n2 ln ld er, ln.length ≤ 512 ∧ ld.length ≤ 512 ∧ ∀ e w, QMulRes p q e w = QRes n2 ln ld er e w := by
  unfold QMulRes
  by_cases h : checkQ (two p q) 2 = 0
  · obtain ⟨n2, ln, ld, er, h1, h2, h3⟩ := LowRes_form (!(p.neg == q.neg)) (valOf p.la * valOf q.la) (valOf p.lb * valOf q.lb)
    exact ⟨n2, ln, ld, er, h1, h2, fun e w => by rw [if_pos h, h3]⟩
  · exact ⟨false, [], [], checkQ (two p q) 2, by simp, by simp, fun e w => by rw [if_neg h]⟩
theorem QDivRes_form (p q : QV) : ∃ n2 ln ld er, ln.length ≤ 512 ∧ ld.length ≤ 512 ∧ ∀ e w, QDivRes p q e w = QRes n2 ln ld er e w := by
  unfold QDivRes
  by_cases h : checkQ (two p q) 2 = 0
  · by_cases h0 : valOf q.la = 0
    · exact ⟨false, [], [], 4, by simp, by simp, fun e w => by rw [if_pos h, if_pos h0]⟩
    · obtain ⟨n2, ln, ld, er, h1, h2, h3⟩ := LowRes_form (!(p.neg == q.neg)) (valOf p.la * valOf q.lb) (valOf p.lb * valOf q.la)
      exact ⟨n2, ln, ld, er, h1, h2, fun e w => by rw [if_pos h, if_neg h0, h3]⟩
  · exact ⟨false, [], [], checkQ (two p q) 2, by simp, by simp, fun e w => by rw [if_neg h]⟩
/-- the fraction with the other sign -/
def QV.turned (q : QV) : QV := ⟨!q.neg && decide (0 < q.n), q.A, q.n, q.c, q.B, q.m, q.d, q.la, q.lb⟩
theorem QV.turned_ok {q : QV} {w : World} (h : q.ok w) : q.turned.ok w := ⟨h.num, h.den⟩
theorem sumS_zero (na nb nc : Bool) (a b d : Nat) : sumS na a b nb 0 d = sumS na a b nc 0 d := by
  cases na <;> cases nb <;> cases nc <;> simp [sumS]
theorem turned_check {p q : QV} {w : World} (hq : q.ok w) (h : checkQ (two p q) 2 = 0) : checkQ (two p q.turned) 2 = 0 := by
  have h1 := checkQ_zero h 1 (by decide)
  have e : List.range 2 = [0, 1] := rfl
  have hn := hq.num.1.len
  have hl : q.turned.long = q.long := rfl
  have hp : q.turned.proper = true := by
    have h2 : q.proper = true := h1
    show properS _ _ _ = true
    unfold QV.proper properS at h2
    unfold properS
    simp only [Bool.and_eq_true, Bool.not_eq_true', decide_eq_true_eq] at h2 ⊢
    refine ⟨⟨⟨⟨h2.1.1.1.1, h2.1.1.1.2⟩, h2.1.1.2⟩, ?_⟩, h2.2⟩
    rw [Bool.and_eq_false_iff]
    by_cases h3 : q.la = []
    · left
      have : q.n = 0 := by rw [← hn, h3]; rfl
      show (!q.neg && decide (0 < q.n)) = false
      simp [this]
    · right
      show decide (q.la = []) = false
      simp [h3]
  unfold checkQ at h ⊢
  rw [e] at h ⊢
  simp only [List.any_cons, List.any_nil, two, if_true, if_neg (show ¬ (1 = 0) by decide), Bool.or_false] at h ⊢
  rw [hl, hp]
  have h2 : q.proper = true := h1
  rw [h2] at h
  exact h
theorem qsub_turned {p q : QV} {w : World} (hq : q.ok w) (h : checkQ (two p q) 2 = 0) (e : Ending) (w' : World) : QAddRes p q.turned e w' = QSubRes p q e w' := by
  have hF := QV.fine hq (checkQ_zero h 1 (by decide))
  unfold QAddRes QSubRes
  rw [if_pos h, if_pos (turned_check hq h)]
  have h1 : sumS p.neg (valOf p.la) (valOf p.lb) q.turned.neg (valOf q.turned.la) (valOf q.turned.lb) = sumS p.neg (valOf p.la) (valOf p.lb) (!q.neg) (valOf q.la) (valOf q.lb) := by
    show sumS p.neg (valOf p.la) (valOf p.lb) (!q.neg && decide (0 < q.n)) (valOf q.la) (valOf q.lb) = _
    rcases Nat.eq_zero_or_pos q.n with h0 | h0
    · have h2 := hF.num.1.len
      rw [h0] at h2
      have h3 := limbs_nil_iff.1 (List.length_eq_zero_iff.1 h2)
      rw [h3]
      exact sumS_zero _ _ _ _ _ _
    · rw [decide_eq_true h0, Bool.and_true]
  rw [h1]
  rfl
set_option maxHeartbeats 1600000 in
set_option maxRecDepth 100000 in
theorem rturned_any (q : QV) (w : World) :
    Calls Tryz.prog 44 #[q.val] w fun e w' => e = .returned q.turned.val ∧ Below w.heap.size w w' := by
  have hB : ∀ v u : Array Value, Blk ((w.alloc (.cells u 25)).alloc (.cells v 25)) (w.heap.size + 1) 25 v := fun v u => by
    have h := Blk.new (w.alloc (.cells u 25)) 25 v
    have e1 : (w.alloc (.cells u 25)).heap.size = w.heap.size + 1 := by simp
    rw [e1] at h
    exact h
  have hu : ∀ v u : Array Value, Below w.heap.size w ((w.alloc (.cells u 25)).alloc (.cells v 25)) := fun v u => ((Below.refl _ _).alloc (Nat.le_refl _) _).alloc (by simp) _
  have HB : Sl _ := ⟨hB⟩
  clear hB
  unfold QV.turned QV.val qv
  rcases hng : q.neg with _ | _
  all_goals (
    clear hng
    go_enter Tryz.func44, Tryz.ntmps44
    go_wp2_with fail
    refine bodyPost_ret (results_cell_row rfl _ _ (w.heap.size + 1) _ _ _ _ rfl (HB.out _ _) Tryz.underlying25 rfl (by kernel_rfl)) rfl ?_
    exact ⟨by simp, hu _ _⟩)

set_option maxHeartbeats 800000 in
set_option maxRecDepth 100000 in
theorem rQSub_any (p q : QV) (w : World) (hp : p.ok w) (hq : q.ok w) :
    Calls Tryz.prog 11 #[p.val, q.val] w fun e w' => QSubRes p q e w' ∧ Below w.heap.size w w' := by
  have HP : Sl _ := ⟨hp⟩
  have HQ : Sl _ := ⟨hq⟩
  clear hp hq
  have hres : ∀ e w', QSubRes p q e w' = QSubRes p q e w' := fun _ _ => rfl
  have HR : Sl _ := ⟨hres⟩
  clear hres
  unfold QV.val qv
  go_enter Tryz.func11, Tryz.ntmps11
  go_wp2_with fail
  have hu : Below w.heap.size w ((((w.alloc (.cells #[.bool p.neg, .slice p.A p.n p.c, .slice p.B p.m p.d] 25)).alloc (.cells #[.bool q.neg, .slice q.A q.n q.c, .slice q.B q.m q.d] 25)).alloc (.cells #[.bool false, .slice none 0 0, .slice none 0 0] 25)).alloc (.cells #[.bool p.neg, .slice p.A p.n p.c, .slice p.B p.m p.d, .bool q.neg, .slice q.A q.n q.c, .slice q.B q.m q.d] 25)) := ((((Below.refl _ _).alloc (Nat.le_refl _) _).alloc (by simp) _).alloc (by simp; omega) _).alloc (by simp; omega) _
  have hqc := qcells_two (((w.alloc (.cells #[.bool p.neg, .slice p.A p.n p.c, .slice p.B p.m p.d] 25)).alloc (.cells #[.bool q.neg, .slice q.A q.n q.c, .slice q.B q.m q.d] 25)).alloc (.cells #[.bool false, .slice none 0 0, .slice none 0 0] 25)) p q 25
  have hbl := (Blk.new ((w.alloc (.cells #[.bool p.neg, .slice p.A p.n p.c, .slice p.B p.m p.d] 25)).alloc (.cells #[.bool q.neg, .slice q.A q.n q.c, .slice q.B q.m q.d] 25)) 25 #[.bool false, .slice none 0 0, .slice none 0 0]).alloc (.cells #[.bool p.neg, .slice p.A p.n p.c, .slice p.B p.m p.d, .bool q.neg, .slice q.A q.n q.c, .slice q.B q.m q.d] 25)
  have hbp := (((Blk.new w 25 #[.bool p.neg, .slice p.A p.n p.c, .slice p.B p.m p.d]).alloc (.cells #[.bool q.neg, .slice q.A q.n q.c, .slice q.B q.m q.d] 25)).alloc (.cells #[.bool false, .slice none 0 0, .slice none 0 0] 25)).alloc (.cells #[.bool p.neg, .slice p.A p.n p.c, .slice p.B p.m p.d, .bool q.neg, .slice q.A q.n q.c, .slice q.B q.m q.d] 25)
  have hbq := ((Blk.new (w.alloc (.cells #[.bool p.neg, .slice p.A p.n p.c, .slice p.B p.m p.d] 25)) 25 #[.bool q.neg, .slice q.A q.n q.c, .slice q.B q.m q.d]).alloc (.cells #[.bool false, .slice none 0 0, .slice none 0 0] 25)).alloc (.cells #[.bool p.neg, .slice p.A p.n p.c, .slice p.B p.m p.d, .bool q.neg, .slice q.A q.n q.c, .slice q.B q.m q.d] 25)
  have e1 : (w.alloc (.cells #[.bool p.neg, .slice p.A p.n p.c, .slice p.B p.m p.d] 25)).heap.size = w.heap.size + 1 := by simp
  rw [e1] at hbq
  clear e1
  have hsz : ((((w.alloc (.cells #[.bool p.neg, .slice p.A p.n p.c, .slice p.B p.m p.d] 25)).alloc (.cells #[.bool q.neg, .slice q.A q.n q.c, .slice q.B q.m q.d] 25)).alloc (.cells #[.bool false, .slice none 0 0, .slice none 0 0] 25)).alloc (.cells #[.bool p.neg, .slice p.A p.n p.c, .slice p.B p.m p.d, .bool q.neg, .slice q.A q.n q.c, .slice q.B q.m q.d] 25)).heap.size = w.heap.size + 1 + 1 + 1 + 1 := by simp
  have e2 : ((w.alloc (.cells #[.bool p.neg, .slice p.A p.n p.c, .slice p.B p.m p.d] 25)).alloc (.cells #[.bool q.neg, .slice q.A q.n q.c, .slice q.B q.m q.d] 25)).heap.size = w.heap.size + 1 + 1 := by simp
  have e3 : (((w.alloc (.cells #[.bool p.neg, .slice p.A p.n p.c, .slice p.B p.m p.d] 25)).alloc (.cells #[.bool q.neg, .slice q.A q.n q.c, .slice q.B q.m q.d] 25)).alloc (.cells #[.bool false, .slice none 0 0, .slice none 0 0] 25)).heap.size = w.heap.size + 1 + 1 + 1 := by simp
  rw [e2] at hbl
  rw [e3] at hqc
  clear e2 e3
  generalize ((((w.alloc (.cells #[.bool p.neg, .slice p.A p.n p.c, .slice p.B p.m p.d] 25)).alloc (.cells #[.bool q.neg, .slice q.A q.n q.c, .slice q.B q.m q.d] 25)).alloc (.cells #[.bool false, .slice none 0 0, .slice none 0 0] 25)).alloc (.cells #[.bool p.neg, .slice p.A p.n p.c, .slice p.B p.m p.d, .bool q.neg, .slice q.A q.n q.c, .slice q.B q.m q.d] 25)) = w1 at *
  have HP1 : Sl _ := ⟨HP.out.below hu⟩
  have HQ1 : Sl _ := ⟨HQ.out.below hu⟩
  have HCK : Sl _ := ⟨rbadq_any (w.heap.size + 1 + 1 + 1) 2 2 (two p q) w1 (by decide) hqc (two_ok HP1.out HQ1.out)⟩
  clear hqc
  refine HCK.out.mono ?_; rintro e w2 ⟨rfl, hb2⟩
  have hu2 := hu.trans (hb2.mono hu.size)
  have hbl2 := hbl.below hb2 hbl.lt
  clear HCK hbl
  by_cases h0 : checkQ (two p q) 2 = 0
  · have hpp := checkQ_zero h0 0 (by decide)
    have hqq := checkQ_zero h0 1 (by decide)
    have hz : w1.heap.size = w.heap.size + 1 + 1 + 1 + 1 := hsz
    have HH0 : Sl _ := ⟨h0⟩
    rw [h0]
    have FP : Sl (p.Fine w2) := ⟨QV.fine (HP1.out.below hb2) hpp⟩
    have FQ : Sl (q.Fine w2) := ⟨QV.fine (HQ1.out.below hb2) hqq⟩
    have hbp2 := hbp.below hb2 hbp.lt
    have hbq2 := hbq.below hb2 hbq.lt
    clear hpp hqq h0 hbp hbq
    obtain ⟨ng, ln, ld, er, _, _, hF⟩ := QAddRes_form p q.turned
    have hR0 : ∀ e w', QSubRes p q e w' = QRes ng ln ld er e w' := fun e w' => (qsub_turned HQ.out HH0.out e w').symm.trans (hF e w')
    have HR0 : Sl _ := ⟨hR0⟩
    have htu := rturned_any q
    have hqa := fun (W : World) (h : RowKit.Below w2.heap.size w2 W) => (rQAdd_any p q.turned W (HP1.out.below (hb2.trans (h.mono hb2.size))) (QV.turned_ok (HQ1.out.below (hb2.trans (h.mono hb2.size))))).mono fun e w' ⟨h1, h2⟩ => (And.intro ((hF e w').mp h1) (And.intro h2 (h.trans (h2.mono h.size))) : QRes ng ln ld er e w' ∧ RowKit.Below W.heap.size W w' ∧ RowKit.Below w2.heap.size w2 w')
    unfold QV.turned at htu hqa
    unfold QV.val qv at htu hqa
    unfold QRes qv at hqa
    simp only [] at htu hqa
    generalize (!q.neg && decide (0 < q.n)) = tn at htu hqa
    have HTU : Sl _ := ⟨htu⟩
    have HQA : Sl _ := ⟨hqa⟩
    have hS : Sl (∀ w' : World, RowKit.Below w2.heap.size w2 w' → w'.cell? ⟨w.heap.size, 0, none⟩ = some (.bool p.neg) ∧ w'.cell? ⟨w.heap.size, 1, none⟩ = some (.slice p.A p.n p.c) ∧ w'.cell? ⟨w.heap.size, 2, none⟩ = some (.slice p.B p.m p.d) ∧ w'.cell? ⟨w.heap.size + 1, 0, none⟩ = some (.bool q.neg) ∧ w'.cell? ⟨w.heap.size + 1, 1, none⟩ = some (.slice q.A q.n q.c) ∧ w'.cell? ⟨w.heap.size + 1, 2, none⟩ = some (.slice q.B q.m q.d)) := ⟨fun w' h => by
      have e1 := hbp2.below h hbp2.lt
      have e2 := hbq2.below h hbq2.lt
      exact ⟨e1.cell 0, e1.cell 1, e1.cell 2, e2.cell 0, e2.cell 1, e2.cell 2⟩⟩
    have hST : Sl (∀ (w' : World) (y0 y1 y2 : Value), RowKit.Below w2.heap.size w2 w' → (fun w' : World => w'.cell? ⟨w.heap.size, 0, none⟩ = some (.bool p.neg) ∧ w'.cell? ⟨w.heap.size, 1, none⟩ = some (.slice p.A p.n p.c) ∧ w'.cell? ⟨w.heap.size, 2, none⟩ = some (.slice p.B p.m p.d) ∧ w'.cell? ⟨w.heap.size + 1, 0, none⟩ = some (.bool q.neg) ∧ w'.cell? ⟨w.heap.size + 1, 1, none⟩ = some (.slice q.A q.n q.c) ∧ w'.cell? ⟨w.heap.size + 1, 2, none⟩ = some (.slice q.B q.m q.d)) (((w'.setCell ⟨w.heap.size + 1 + 1, 0, none⟩ y0).setCell ⟨w.heap.size + 1 + 1, 1, none⟩ y1).setCell ⟨w.heap.size + 1 + 1, 2, none⟩ y2)) := ⟨fun w' y0 y1 y2 h => by
      have b0 := hbp2.below h hbp2.lt
      have b1 := hbq2.below h hbq2.lt
      have n0 : w.heap.size ≠ w.heap.size + 1 + 1 := by omega
      have n1 : w.heap.size + 1 ≠ w.heap.size + 1 + 1 := by omega
      have c0 := ((b0.far (p := ⟨w.heap.size + 1 + 1, 0, none⟩) n0 y0).far (p := ⟨w.heap.size + 1 + 1, 1, none⟩) n0 y1).far (p := ⟨w.heap.size + 1 + 1, 2, none⟩) n0 y2
      have c1 := ((b1.far (p := ⟨w.heap.size + 1 + 1, 0, none⟩) n1 y0).far (p := ⟨w.heap.size + 1 + 1, 1, none⟩) n1 y1).far (p := ⟨w.heap.size + 1 + 1, 2, none⟩) n1 y2
      exact ⟨(c0.cell 0).trans rfl, (c0.cell 1).trans rfl, (c0.cell 2).trans rfl, (c1.cell 0).trans rfl, (c1.cell 1).trans rfl, (c1.cell 2).trans rfl⟩⟩
    have HB2 : Sl (∀ w' : World, RowKit.Below w2.heap.size w2 w' → (w'.cell? ⟨w.heap.size + 1 + 1, 0, none⟩ = some (.bool false) ∧ w'.cell? ⟨w.heap.size + 1 + 1, 1, none⟩ = some (.slice none 0 0) ∧ w'.cell? ⟨w.heap.size + 1 + 1, 2, none⟩ = some (.slice none 0 0)) ∧
      (w'.frozen? ⟨w.heap.size + 1 + 1, 0, none⟩ = false ∧ w'.frozen? ⟨w.heap.size + 1 + 1, 1, none⟩ = false ∧ w'.frozen? ⟨w.heap.size + 1 + 1, 2, none⟩ = false) ∧ Blk w' (w.heap.size + 1 + 1) 25 #[.bool false, .slice none 0 0, .slice none 0 0]) := ⟨fun w' h => by
      have e := hbl2.below h hbl2.lt
      exact ⟨⟨by rw [e.cell]; rfl, by rw [e.cell]; rfl, by rw [e.cell]; rfl⟩, ⟨e.frozen _, e.frozen _, e.frozen _⟩, e⟩⟩
    obtain ⟨s0, s1, s2, s3, s4, s5⟩ := hS.out w2 (Below.refl _ _)
    have hd : RowKit.Below w2.heap.size w2 w2.drew := below_drewN (Below.refl _ _) 1
    clear htu hqa hR0 hF hbl2 hbp2 hbq2 HH0 HR HP1 HQ1 HP HQ FP FQ
    go_wp2_with fail
    go_region_held3 (fun w' => w'.cell? ⟨w.heap.size, 0, none⟩ = some (.bool p.neg) ∧ w'.cell? ⟨w.heap.size, 1, none⟩ = some (.slice p.A p.n p.c) ∧ w'.cell? ⟨w.heap.size, 2, none⟩ = some (.slice p.B p.m p.d) ∧ w'.cell? ⟨w.heap.size + 1, 0, none⟩ = some (.bool q.neg) ∧ w'.cell? ⟨w.heap.size + 1, 1, none⟩ = some (.slice q.A q.n q.c) ∧ w'.cell? ⟨w.heap.size + 1, 2, none⟩ = some (.slice q.B q.m q.d))
      (first | (refine hS.out _ ?_; assumption) | (refine hST.out _ _ _ _ ?_; assumption) | go_keep)
      (first
        | (go_at_call 44; (with_reducible refine (HTU.out _).mono ?_); rintro e w3 ⟨rfl, hb3⟩; have hs3 := hd.trans (hb3.mono hd.size))
        | (go_at_call 9; (with_reducible refine (HQA.out _ hs3).mono ?_); rintro e w5 ⟨⟨A5, c5, B5, d5, rfl, k1, k2⟩, hb5, hs5⟩; have K3 : Sl _ := ⟨k1⟩; have K4 : Sl _ := ⟨k2⟩; obtain ⟨⟨r0, r1, r2⟩, ⟨f0, f1, f2⟩, r8⟩ := HB2.out w5 hs5; have HR8 : Sl _ := ⟨r8⟩; clear r8 k1 k2)
        | fail)
    all_goals (
      go_wp2_with fail
      refine bodyPost_ret (results_row2 rfl _ _ (w.heap.size + 1 + 1) _ _ _ rfl (HR8.out.three _ _ _) Tryz.underlying25 rfl (by kernel_rfl)) rfl ?_
      rw [HR0.out]
      exact ⟨⟨A5, c5, B5, d5, rfl, K3.out.three HR8.out ni1 ni2 ni2 _ _ _, K4.out.three HR8.out ni1 ni2 ni2 _ _ _⟩, below_three (hu2.trans (hs5.mono hu2.size)) (by omega) _ _ _⟩)
  · have hR0 : ∀ e w', QSubRes p q e w' = QRes false [] [] (checkQ (two p q) 2) e w' := fun e w' => by unfold QSubRes; rw [if_neg h0]
    have HR0 : Sl _ := ⟨hR0⟩
    clear hR0
    generalize checkQ (two p q) 2 = er at *
    have hne : (er == 0) = false := by rw [beq_eq_false_iff_ne]; exact h0
    have r0 := hbl2.cell 0
    have r1 := hbl2.cell 1
    have r2 := hbl2.cell 2
    have f0 := hbl2.frozen 0
    have f1 := hbl2.frozen 1
    have f2 := hbl2.frozen 2
    simp at r0 r1 r2
    have HBL : Sl _ := ⟨hbl2⟩
    clear hbl2 h0 HR
    go_wp2_with fail
    refine bodyPost_ret (results_row2 rfl _ _ (w.heap.size + 1 + 1) _ _ _ rfl (HBL.out.three _ _ _) Tryz.underlying25 rfl (by kernel_rfl)) rfl ?_
    rw [HR0.out]
    exact ⟨q_none _ _, below_three hu2 (by omega) _ _ _⟩
end Go.Proofs.YtgjbaamhpapeeaaGreatDoor
