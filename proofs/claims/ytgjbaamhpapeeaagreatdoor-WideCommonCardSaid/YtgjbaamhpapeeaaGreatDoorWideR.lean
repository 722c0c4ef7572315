/- Package wide: the public functions of fractions. -/
import Derived.Test.YtgjbaamhpapeeaaGreatDoorWideQ
namespace Go.Proofs.YtgjbaamhpapeeaaGreatDoor
set_option linter.unusedSimpArgs false
open Go.RowKit
set_option linter.unusedVariables false

/-- what a proper fraction is -/
structure QV.Fine (q : QV) (w : World) : Prop where
  num : Arg w q.A q.n q.c (limbs (valOf q.la))
  den : Arg w q.B q.m q.d (limbs (valOf q.lb))
  ln : q.n ≤ 512
  ld : q.m ≤ 512
  pos : valOf q.lb ≠ 0
  one : Nat.gcd (valOf q.la) (valOf q.lb) = 1
  neg : q.neg = true → valOf q.la ≠ 0
theorem QV.fine {q : QV} {w : World} (h : q.ok w) (hp : q.proper = true) : q.Fine w := by
  unfold QV.proper properS at hp
  simp only [Bool.and_eq_true, decide_eq_true_eq, Bool.not_eq_true', Bool.and_eq_false_iff, decide_eq_false_iff_not] at hp
  obtain ⟨⟨⟨⟨h1, h2⟩, h3⟩, h4⟩, h5⟩ := hp
  obtain ⟨a1, a2⟩ := ok_one h.num h1
  obtain ⟨b1, b2⟩ := ok_one h.den h2
  have ea := ((validL_iff h.num.1.2).1 h1).1
  have eb := ((validL_iff h.den.1.2).1 h2).1
  refine ⟨a1, b1, a2, b2, ?_, h5, fun hn h0 => ?_⟩
  · intro h0
    rw [h0, limbs_zero] at eb
    exact h3 eb
  · rw [h0, limbs_zero] at ea
    rcases h4 with h4 | h4
    · rw [hn] at h4; cases h4
    · exact h4 ea
theorem checkQ_zero {qs : Nat → QV} {k : Nat} (h : checkQ qs k = 0) : ∀ i, i < k → (qs i).proper = true := by
  intro i hi
  unfold checkQ at h
  split at h
  · cases h
  · split at h
    · cases h
    · rename_i h1
      simp only [List.any_eq_true, List.mem_range, not_exists, not_and] at h1
      have := h1 i hi
      simpa using this
def two (p q : QV) : Nat → QV := fun i => if i = 0 then p else q
theorem qcells_two (w : World) (p q : QV) (t : TypeId) : QCells (w.alloc (.cells #[.bool p.neg, .slice p.A p.n p.c, .slice p.B p.m p.d, .bool q.neg, .slice q.A q.n q.c, .slice q.B q.m q.d] t)) w.heap.size 2 (two p q) := by
  refine ⟨t, _, Blk.new _ _ _, fun i hi => ?_⟩
  match i, hi with
  | 0, _ => exact ⟨rfl, rfl, rfl⟩
  | 1, _ => exact ⟨rfl, rfl, rfl⟩
theorem qcells_one (w : World) (p : QV) (t : TypeId) : QCells (w.alloc (.cells #[.bool p.neg, .slice p.A p.n p.c, .slice p.B p.m p.d] t)) w.heap.size 1 (fun _ => p) := by
  refine ⟨t, _, Blk.new _ _ _, fun i hi => ?_⟩
  match i, hi with
  | 0, _ => exact ⟨rfl, rfl, rfl⟩

theorem ni1 : noInt (.bool false) := fun _ _ => by simp
theorem ni2 : noInt (.slice none 0 0) := fun _ _ => by simp
theorem sumS_len {na nb : Bool} {a b c d : Nat} (ha : (limbs a).length ≤ 512) (hb : (limbs b).length ≤ 512) (hc : (limbs c).length ≤ 512) (hd : (limbs d).length ≤ 512) : (limbs (sumS na a b nb c d).2).length ≤ 1025 := by
  have h1 := limbs_len_mul a d
  have h2 := limbs_len_mul c b
  have h3 := limbs_len_add (a := a * d) (b := c * b) (M := 1024) (by omega) (by omega)
  refine Nat.le_trans (limbs_len_mono ?_) h3
  unfold sumS
  split
  · exact Nat.le_refl _
  · split
    · exact Nat.le_trans (Nat.sub_le _ _) (Nat.le_add_left _ _)
    · exact Nat.le_trans (Nat.sub_le _ _) (Nat.le_add_right _ _)
theorem two_ok {p q : QV} {w : World} (hp : p.ok w) (hq : q.ok w) : ∀ i, i < 2 → (two p q i).ok w := fun i hi => by
  unfold two; split
  · exact hp
  · exact hq
/-- the zero struct that a named result begins with -/
def zq : Array Value := #[.bool false, .slice none 0 0, .slice none 0 0]
/-- QAdd -/
def QAddRes (p q : QV) (e : Ending) (w : World) : Prop :=
  if checkQ (two p q) 2 = 0 then LowRes (sumS p.neg (valOf p.la) (valOf p.lb) q.neg (valOf q.la) (valOf q.lb)).1 (sumS p.neg (valOf p.la) (valOf p.lb) q.neg (valOf q.la) (valOf q.lb)).2 (valOf p.lb * valOf q.lb) e w
  else QRes false [] [] (checkQ (two p q) 2) e w
set_option maxHeartbeats 800000 in
set_option maxRecDepth 100000 in
theorem QAdd_any (p q : QV) (w : World) (hp : p.ok w) (hq : q.ok w) :
    Calls Tryz.prog 8 #[p.val, q.val] w fun e w' => QAddRes p q e w' ∧ Below w.heap.size w w' := by
  have HP : Sl _ := ⟨hp⟩
  have HQ : Sl _ := ⟨hq⟩
  clear hp hq
  have hres : ∀ e w', QAddRes p q e w' = (if checkQ (two p q) 2 = 0 then LowRes (sumS p.neg (valOf p.la) (valOf p.lb) q.neg (valOf q.la) (valOf q.lb)).1 (sumS p.neg (valOf p.la) (valOf p.lb) q.neg (valOf q.la) (valOf q.lb)).2 (valOf p.lb * valOf q.lb) e w'
    else QRes false [] [] (checkQ (two p q) 2) e w') := fun e w' => rfl
  have HR : Sl _ := ⟨hres⟩
  clear hres
  unfold QV.val qv
  go_enter Tryz.func8, Tryz.ntmps8
  go_wp2_with fail
  have hu : Below w.heap.size w ((((w.alloc (.cells #[.bool p.neg, .slice p.A p.n p.c, .slice p.B p.m p.d] 25)).alloc (.cells #[.bool q.neg, .slice q.A q.n q.c, .slice q.B q.m q.d] 25)).alloc (.cells #[.bool false, .slice none 0 0, .slice none 0 0] 25)).alloc (.cells #[.bool p.neg, .slice p.A p.n p.c, .slice p.B p.m p.d, .bool q.neg, .slice q.A q.n q.c, .slice q.B q.m q.d] 25)) := ((((Below.refl _ _).alloc (Nat.le_refl _) _).alloc (by simp) _).alloc (by simp; omega) _).alloc (by simp; omega) _
  have hqc := qcells_two (((w.alloc (.cells #[.bool p.neg, .slice p.A p.n p.c, .slice p.B p.m p.d] 25)).alloc (.cells #[.bool q.neg, .slice q.A q.n q.c, .slice q.B q.m q.d] 25)).alloc (.cells #[.bool false, .slice none 0 0, .slice none 0 0] 25)) p q 25
  have hbl := (Blk.new ((w.alloc (.cells #[.bool p.neg, .slice p.A p.n p.c, .slice p.B p.m p.d] 25)).alloc (.cells #[.bool q.neg, .slice q.A q.n q.c, .slice q.B q.m q.d] 25)) 25 #[.bool false, .slice none 0 0, .slice none 0 0]).alloc (.cells #[.bool p.neg, .slice p.A p.n p.c, .slice p.B p.m p.d, .bool q.neg, .slice q.A q.n q.c, .slice q.B q.m q.d] 25)
  have e2 : ((w.alloc (.cells #[.bool p.neg, .slice p.A p.n p.c, .slice p.B p.m p.d] 25)).alloc (.cells #[.bool q.neg, .slice q.A q.n q.c, .slice q.B q.m q.d] 25)).heap.size = w.heap.size + 1 + 1 := by simp
  have e3 : (((w.alloc (.cells #[.bool p.neg, .slice p.A p.n p.c, .slice p.B p.m p.d] 25)).alloc (.cells #[.bool q.neg, .slice q.A q.n q.c, .slice q.B q.m q.d] 25)).alloc (.cells #[.bool false, .slice none 0 0, .slice none 0 0] 25)).heap.size = w.heap.size + 1 + 1 + 1 := by simp
  rw [e2] at hbl
  rw [e3] at hqc
  clear e2 e3
  generalize ((((w.alloc (.cells #[.bool p.neg, .slice p.A p.n p.c, .slice p.B p.m p.d] 25)).alloc (.cells #[.bool q.neg, .slice q.A q.n q.c, .slice q.B q.m q.d] 25)).alloc (.cells #[.bool false, .slice none 0 0, .slice none 0 0] 25)).alloc (.cells #[.bool p.neg, .slice p.A p.n p.c, .slice p.B p.m p.d, .bool q.neg, .slice q.A q.n q.c, .slice q.B q.m q.d] 25)) = w1 at *
  have HP1 : Sl _ := ⟨HP.out.below hu⟩
  have HQ1 : Sl _ := ⟨HQ.out.below hu⟩
  have HCK : Sl _ := ⟨checked_any (w.heap.size + 1 + 1 + 1) 2 2 (two p q) w1 (by decide) (by decide) hqc (two_ok HP1.out HQ1.out)⟩
  clear hqc
  refine HCK.out.mono ?_; rintro e w2 ⟨hqs, hb2⟩
  have hu2 := hu.trans (hb2.mono hu.size)
  have hbl2 := hbl.below hb2 hbl.lt
  clear HCK hbl
  rcases hqs with ⟨h0, gg, cap, rfl, hqc⟩ | ⟨h0, rfl⟩
  · have hpp := checkQ_zero h0 0 (by decide)
    have hqq := checkQ_zero h0 1 (by decide)
    have FP : Sl (p.Fine w2) := ⟨QV.fine (HP1.out.below hb2) hpp⟩
    have FQ : Sl (q.Fine w2) := ⟨QV.fine (HQ1.out.below hb2) hqq⟩
    have HH0 : Sl _ := ⟨h0⟩
    clear hpp hqq h0
    obtain ⟨p0, p1, p2⟩ := hqc.cells (i := 0) (by decide)
    obtain ⟨p3, p4, p5⟩ := hqc.cells (i := 1) (by decide)
    simp only [two, if_true, if_neg (show ¬ (1 = 0) by decide), Nat.zero_mul, Nat.one_mul, Nat.zero_add] at p0 p1 p2 p3 p4 p5
    have hpa := FP.out.num.1.len
    have hpb := FP.out.den.1.len
    have hqa := FQ.out.num.1.len
    have hqb := FQ.out.den.1.len
    have hsl := sumS_len (na := p.neg) (nb := q.neg) (a := valOf p.la) (b := valOf p.lb) (c := valOf q.la) (d := valOf q.lb) (by rw [hpa]; exact FP.out.ln) (by rw [hpb]; exact FP.out.ld) (by rw [hqa]; exact FQ.out.ln) (by rw [hqb]; exact FQ.out.ld)
    have hsb : (limbs (valOf p.lb * valOf q.lb)).length ≤ 16384 := by
      have h1 := limbs_len_mul (valOf p.lb) (valOf q.lb); have h2 := FP.out.ld; have h3 := FQ.out.ld; omega
    have hsp : valOf p.lb * valOf q.lb ≠ 0 := Nat.mul_ne_zero FP.out.pos FQ.out.pos
    have hqp := qplus_any p.neg q.neg p.A p.B q.A q.B p.n p.m q.n q.m p.c p.d q.c q.d (valOf p.la) (valOf p.lb) (valOf q.la) (valOf q.lb) w2.drew (FP.out.num.drewN 1) (FP.out.den.drewN 1) (FQ.out.num.drewN 1) (FQ.out.den.drewN 1) FP.out.ln FP.out.ld FQ.out.ln FQ.out.ld
    have hR0 : ∀ e w', QAddRes p q e w' = LowRes (sumS p.neg (valOf p.la) (valOf p.lb) q.neg (valOf q.la) (valOf q.lb)).1 (sumS p.neg (valOf p.la) (valOf p.lb) q.neg (valOf q.la) (valOf q.lb)).2 (valOf p.lb * valOf q.lb) e w' := fun e w' => by rw [HR.out, if_pos HH0.out]
    generalize (sumS p.neg (valOf p.la) (valOf p.lb) q.neg (valOf q.la) (valOf q.lb)).1 = sg at *
    generalize (sumS p.neg (valOf p.la) (valOf p.lb) q.neg (valOf q.la) (valOf q.lb)).2 = sa at *
    generalize valOf p.lb * valOf q.lb = sb at *
    have hlow := fun (A B : Option Addr) (c d : Nat) (w : World) (h1 : Arg w A (limbs sa).length c (limbs sa)) (h2 : Arg w B (limbs sb).length d (limbs sb)) => lowest_any sg A B _ _ c d sa sb w h1 h2 (by omega) (by omega) hsp
    unfold QVal qv at hqp
    unfold LowRes QRes qv at hlow
    have hLR : ∀ e w', LowRes sg sa sb e w' = QRes (lowS sg sa sb).1 (lowS sg sa sb).2.1 (lowS sg sa sb).2.2.1 (lowS sg sa sb).2.2.2 e w' := fun _ _ => rfl
    generalize (lowS sg sa sb).1 = rg at *
    generalize (lowS sg sa sb).2.1 = rn at *
    generalize (lowS sg sa sb).2.2.1 = rd at *
    generalize (lowS sg sa sb).2.2.2 = re at *
    have HB2 : Sl (∀ w' : World, RowKit.Below w2.heap.size w2 w' → (w'.cell? ⟨w.heap.size + 1 + 1, 0, none⟩ = some (.bool false) ∧ w'.cell? ⟨w.heap.size + 1 + 1, 1, none⟩ = some (.slice none 0 0) ∧ w'.cell? ⟨w.heap.size + 1 + 1, 2, none⟩ = some (.slice none 0 0)) ∧
      (w'.frozen? ⟨w.heap.size + 1 + 1, 0, none⟩ = false ∧ w'.frozen? ⟨w.heap.size + 1 + 1, 1, none⟩ = false ∧ w'.frozen? ⟨w.heap.size + 1 + 1, 2, none⟩ = false) ∧ Blk w' (w.heap.size + 1 + 1) 25 #[.bool false, .slice none 0 0, .slice none 0 0]) := ⟨fun w' h => by
      have e := hbl2.below h hbl2.lt
      exact ⟨⟨by rw [e.cell]; rfl, by rw [e.cell]; rfl, by rw [e.cell]; rfl⟩, ⟨e.frozen _, e.frozen _, e.frozen _⟩, e⟩⟩
    have HQP : Sl _ := ⟨hqp⟩
    have HLOW : Sl _ := ⟨hlow⟩
    have HR0 : Sl _ := ⟨hR0⟩
    have HLR : Sl _ := ⟨hLR⟩
    have hd : RowKit.Below w2.heap.size w2 w2.drew := below_drewN (Below.refl _ _) 1
    clear hqp hlow hR0 hLR hsl hsb hsp hpa hpb hqa hqb hqc hbl2
    go_wp2_with fail
    go_region_with (first
      | (go_at_call 36; (with_reducible refine HQP.out.mono ?_); rintro e w3 ⟨⟨A3, c3, B3, d3, rfl, k1, k2⟩, hb3⟩; have K1 : Sl _ := ⟨k1⟩; have K2 : Sl _ := ⟨k2⟩; have hb3' := hd.trans (hb3.mono hd.size); clear k1 k2)
      | (go_at_call 37; (with_reducible refine (HLOW.out _ _ _ _ _ K1.out K2.out).mono ?_); rintro e w4 ⟨⟨A4, c4, B4, d4, rfl, k1, k2⟩, hb4⟩; have K3 : Sl _ := ⟨k1⟩; have K4 : Sl _ := ⟨k2⟩; have hb4' := hb3'.trans (hb4.mono hb3'.size); obtain ⟨⟨r0, r1, r2⟩, ⟨f0, f1, f2⟩, r8⟩ := HB2.out w4 hb4'; have HR8 : Sl _ := ⟨r8⟩; clear r8 k1 k2))
    all_goals (
      go_wp2_with fail
      refine bodyPost_ret (results_row2 rfl _ _ (w.heap.size + 1 + 1) _ _ _ rfl (HR8.out.three _ _ _) Tryz.underlying25 rfl (by kernel_rfl)) rfl ?_
      rw [HR0.out, HLR.out]
      exact ⟨⟨A4, c4, B4, d4, rfl, K3.out.three HR8.out ni1 ni2 ni2 _ _ _, K4.out.three HR8.out ni1 ni2 ni2 _ _ _⟩, below_three (hu2.trans (hb4'.mono hu2.size)) (by omega) _ _ _⟩)
  · have hR0 : ∀ e w', QAddRes p q e w' = QRes false [] [] (checkQ (two p q) 2) e w' := fun e w' => by rw [HR.out, if_neg h0]
    have HR0 : Sl _ := ⟨hR0⟩
    clear hR0
    generalize checkQ (two p q) 2 = er at *
    have hne : (er == 0) = false := by rw [beq_eq_false_iff_ne]; exact h0
    have r0 := hbl2.cell 0
    have r1 := hbl2.cell 1
    have r2 := hbl2.cell 2
    have f0 := hbl2.frozen 0
    have f1 := hbl2.frozen 1
    have f2 := hbl2.frozen 2
    simp at r0 r1 r2
    have HBL : Sl _ := ⟨hbl2⟩
    clear hbl2 h0 HR
    go_wp2_with fail
    refine bodyPost_ret (results_row2 rfl _ _ (w.heap.size + 1 + 1) _ _ _ rfl (HBL.out.three _ _ _) Tryz.underlying25 rfl (by kernel_rfl)) rfl ?_
    rw [HR0.out]
    exact ⟨q_none _ _, below_three hu2 (by omega) _ _ _⟩
end Go.Proofs.YtgjbaamhpapeeaaGreatDoor
