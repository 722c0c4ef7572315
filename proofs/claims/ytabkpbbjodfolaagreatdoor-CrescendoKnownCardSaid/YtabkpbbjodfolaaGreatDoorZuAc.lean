/- A sequence: Insert. (Printed by gensqn.py.) -/
import Derived.Test.YtabkpbbjodfolaaGreatDoorZuAb
import Derived.Test.YtabkpbbjodfolaaGreatDoorShelB
import Derived.Shelf.Strings.BuilderK
set_option linter.unusedSimpArgs false
set_option linter.unusedVariables false
set_option maxHeartbeats 25600000
set_option maxRecDepth 100000
namespace Go.Proofs.YtabkpbbjodfolaaGreatDoor
open Go.RowKit
theorem wpList_box_one {P : Program} {ops : Array Oper} {rest : List Oper} {op : Oper} {a : Act} {w : World} {Q : Exit → Act → World → Prop} (k : Tmp) (hdst : op.dst = some k) (hgd : op.guard = none) (ty : TypeId) (x : Operand) (ho : op.op = .box ty x) (v : Value) (hx : a.eval x = v)
    (hz : ∀ w, (Instr.box ty v).run P w = .ok (.pointer (some ⟨w.heap.size, 0, none⟩)) (w.alloc (.cells #[v] ty)))
    (h : ∀ w' g, g = w.heap.size → Mv w.heap.size w w' → w'.heap.size = g + 1 → Blk w' g ty #[v] → wpList P ops Q rest (a.put op.dst (.pointer (some ⟨g, 0, none⟩))) w') : wpList P ops Q (op :: rest) a w := by
  refine wpList_plain hgd fun K hK => ?_
  have hrun : (execOp a.eval op).run P w = .ok (.value (.pointer (some ⟨w.heap.size, 0, none⟩))) (w.alloc (.cells #[v] ty)) := by
    unfold execOp; simp only [ho, hx, Sem.run_bind, hz, Result.andThen_ok, Sem.run_pure]
  unfold Oper.wp; rw [hrun, Oper.upon_value]; exact hK _ _ (h _ _ rfl (Mv.of_below ((Below.refl _ _).alloc (Nat.le_refl _) _)) (by simp) (Blk.new w ty #[v]))
theorem SQ.held_lt {w : World} {base : Nat} {o : SpO} {m : SqM} {V : SqV RgV} (h : SQ w base o m V) {i : Nat} (hi : m.held i) : i < w.heap.size := by
  rcases hi with hi | hi
  · rcases hi with hi | hi | hi
    · rw [hi]; exact h.blk.lt
    · exact (own_lt2 h.fr (blkOf_own.1 hi)).2
    · exact (own_lt2 h.ed (blkOf_own.1 hi)).2
  · exact h.lt i hi
def SqM.wide (m : SqM) (a b : Nat) : SqM := { m with imm := fun i => m.imm i ∨ (a ≤ i ∧ i < b) }
theorem SQ.widen {w w' : World} {base : Nat} {o : SpO} {m : SqM} {V : SqV RgV} (h0 : SQ w base o m V) {p : Nat → Prop} (hm : MvP p w w') (hp : ∀ i, p i → w.heap.size ≤ i) : SQ w' base o (m.wide w.heap.size w'.heap.size) V ∧ Foot m (m.wide w.heap.size w'.heap.size) w w' := by
  have h : SQ w' base o m V := h0.keep hm (fun i hi e => by have := h0.held_lt hi; have := hp i e; omega); refine ⟨h.more (fun i e => .inl e) (fun i e hi => ?_) (fun i hi => ?_), ⟨⟨hm.os, hm.tape, hm.output, hm.size, fun k hk hn => hm.block k hk (fun e => by have := hp k e; omega)⟩, fun i e => ?_, fun i e => .inl e, rfl⟩⟩
  · rcases hi with hi | hi
    · exact h.ni i e hi
    · have := h0.held_lt (.inl e); omega
  · rcases hi with hi | hi
    · exact h.lt i hi
    · exact hi.2
  · rcases e with e | e | e
    · exact .inl (.inl e)
    · exact .inl (.inr e)
    · exact .inr e.1
def insE (o : SpO) (V : SqV RgV) (z : Int) (r : RgV) : Int := if z < 0 ∨ (V.L.length : Int) < z then 7 else if regE o r ≠ 0 then regE o r else if 500 ≤ V.L.length then 5 else 0
def InsP (base : Nat) (o : SpO) (m : SqM) (V : SqV RgV) (z : Int) (r : RgV) (w : World) (en : Ending) (w' : World) : Prop :=
  en = .returned (.int .i64 (insE o V z r)) ∧ ∃ m' r', (r'.l = r.l ∧ r'.k = r.k) ∧ SQ w' base o m' (if insE o V z r = 0 then V.does (.ins z.toNat r') (if z < (V.p : Int) then V.p + 1 else V.p) else V) ∧ Foot m m' w w'
theorem InsP.no {base : Nat} {o : SpO} {m : SqM} {V : SqV RgV} {z c : Int} {r : RgV} {w w' : World} (hv : insE o V z r = c) (hc : c ≠ 0) (hs : SQ w' base o m V) (hb : Below w.heap.size w w') : InsP base o m V z r w (.returned (.int .i64 c)) w' :=
  ⟨by rw [hv], m, r, ⟨rfl, rfl⟩, by rw [if_neg (by rw [hv]; exact hc)]; exact hs, Foot.of_below hb⟩
def SqB (o : SpO) (V : SqV RgV) : Prop := V.d ≤ V.E.length ∧ V.E.length ≤ 100 ∧ V.L.length ≤ 500 ∧ V.p ≤ V.L.length ∧ o.n3 ≤ 1000 ∧ o.n4 ≤ 1000
theorem qInsert_any (base : Nat) (o : SpO) (m : SqM) (V : SqV RgV) (z : Int) (r : RgV) (w : World) (h : SQ w base o m V) (hF : SpF o) (hr : RgM w r) (hB : SqB o V) :
    Calls Tryz.prog 12 #[ptr m.q, .int .i64 z, .agg #[.slice r.A r.n r.c, .slice r.B r.m r.d]] w fun en w' => InsP base o m V z r w en w' := by
  have H : Sl _ := ⟨h⟩; have HF : Sl _ := ⟨hF⟩; have HR : Sl _ := ⟨hr⟩; have HBD : Sl _ := ⟨hB⟩; have HD : Sl (Lg w w []) := ⟨Lg.nil w⟩; obtain ⟨q, hq⟩ : ∃ q, m.q = q := ⟨_, rfl⟩; obtain ⟨n, hn⟩ : ∃ n, V.L.length = n := ⟨_, rfl⟩; have HQ : Sl (m.q = q ∧ V.L.length = n ∧ n ≤ 500) := ⟨⟨hq, hn, by have := hB.2.2.1; omega⟩⟩; have HE : Sl (insE o V z r = if z < 0 ∨ (n : Int) < z then 7 else if regE o r ≠ 0 then regE o r else if 500 ≤ n then 5 else 0) := ⟨by rw [← hn]; rfl⟩; have hn500 : (n : Int) ≤ 500 := (by have := HQ.out; omega); rw [hq]; clear h hF hr hB hq hn; go_enter Tryz.func12, Tryz.ntmps12
  go_upto_region 1 with ((with_reducible show wpList _ _ _ _ _ _); first
    | (refine wpList_box_one 3 rfl rfl 24 (.tmp 0) rfl (ptr q) rfl (fun _ => by kernel_rfl) ?_; rintro w1 g3 zg zm zs zb; replace HD : Sl _ := ⟨HD.out.new zg zm zb⟩; clear zg zm zs zb)
    | (refine wpList_box_one 4 rfl rfl 3 (.tmp 1) rfl (.int .i64 z) rfl (fun _ => by kernel_rfl) ?_; rintro w2 g4 zg zm zs zb; replace HD : Sl _ := ⟨HD.out.new zg zm zb⟩; clear zg zm zs zb)
    | (refine wpList_box_new 5 rfl rfl 45 (.tmp 2) rfl #[.slice r.A r.n r.c, .slice r.B r.m r.d] rfl (fun _ => by kernel_rfl) ?_; rintro w3 g5 zg zm zs zb; replace HD : Sl _ := ⟨HD.out.new zg zm zb⟩; clear zg zm zs zb))
  have HS : Sl (SQ w3 base o m V) := ⟨H.out.below HD.out.bl⟩; have c3 : w3.cell? ⟨g3, 0, none⟩ = some (ptr q) := (HD.out.at_ 2 rfl).cell 0; have HC0 : Sl _ := ⟨isq_any q w3 (by rw [← HQ.out.1]; exact HS.out.cell 0 rfl)⟩; go_wp2_with fail; refine HC0.out.mono ?_; rintro en w4 ⟨rfl, rfl⟩; clear HC0; have c4 : w4.cell? ⟨g4, 0, none⟩ = some (.int .i64 z) := (HD.out.at_ 1 rfl).cell 0; have c5 : w4.cell? ⟨q, 5, none⟩ = some (.slice m.FA n m.fc) := (by rw [← HQ.out.1, ← HQ.out.2.1]; exact HS.out.cell 5 rfl); have hS0 : w4.drew.cell? ⟨g3, 0, none⟩ = some (ptr q) ∧ w4.drew.cell? ⟨g4, 0, none⟩ = some (.int .i64 z) ∧ w4.drew.cell? ⟨q, 5, none⟩ = some (.slice m.FA n m.fc) := ⟨c3, c4, c5⟩; have hb4 : Below w4.heap.size w4 w4.drew := below_drewN (Below.refl _ _) 1; go_wp2_with fail; clear c3 c4 c5; replace HD : Sl (Lg w w4.drew [(g5, 45, #[.slice r.A r.n r.c, .slice r.B r.m r.d]), (g4, 3, #[.int .i64 z]), (g3, 24, #[ptr q])]) := ⟨HD.out.below hb4⟩; replace HS : Sl (SQ w4.drew base o m V) := ⟨HS.out.below hb4⟩; clear hb4
  by_cases p1 : z < 0
  · have p1d : decide (z < 0) = true := decide_eq_true p1; have HV : Sl (insE o V z r = 7) := ⟨by rw [HE.out]; exact if_pos (.inl p1)⟩; have hm := hS0; refine wp_region_held_drew (S := fun w' => w'.cell? ⟨g3, 0, none⟩ = some (ptr q) ∧ w'.cell? ⟨g4, 0, none⟩ = some (.int .i64 z) ∧ w'.cell? ⟨q, 5, none⟩ = some (.slice m.FA n m.fc)) (by kernel_rfl) hm (fun hHeld => ?_); clear hm
    refine hC 0 (v := .int .i64 z) rfl rfl (fun w' h => by
      have hc := h.2.1
      go_simp) ?_
    simp only [pS]; refine hS 1 (v := .bool true) rfl rfl ?_; simp only [pS]; refine hM 2 (v := .bool true) rfl rfl ?_; simp only [pS]; refine gN 3 rfl ?_; simp only [pS]; refine gN 4 rfl ?_; simp only [pS]; refine gN 5 rfl ?_; simp only [pS]; refine gN 6 rfl ?_; simp only [pS]; refine gN 7 rfl ?_; simp only [pS]; refine gN 8 rfl ?_; simp only [pS]; refine gN 9 rfl ?_; simp only [pS]; refine hS 10 (v := .bool true) rfl rfl ?_; simp only [pS]; refine hS 11 (v := .bool true) rfl rfl ?_; simp only [pS]; refine wpAnyH_done (by kernel_rfl) ?_ _; clear hHeld hS0; go_wp2_with fail; go_ret; exact InsP.no HV.out (by decide) HS.out HD.out.bl
  · have p1d : decide (z < 0) = false := decide_eq_false p1; obtain ⟨p, rfl⟩ := Int.eq_ofNat_of_zero_le (show 0 ≤ z by omega)
    by_cases p2 : n < p
    · have p2d : decide ((n : Int) < (p : Int)) = true := decide_eq_true (by omega); have HV : Sl (insE o V (p : Int) r = 7) := ⟨by rw [HE.out]; exact if_pos (.inr (by omega))⟩; have hm := hS0; refine wp_region_held_drew (S := fun w' => w'.cell? ⟨g3, 0, none⟩ = some (ptr q) ∧ w'.cell? ⟨g4, 0, none⟩ = some (.int .i64 (p : Int)) ∧ w'.cell? ⟨q, 5, none⟩ = some (.slice m.FA n m.fc)) (by kernel_rfl) hm (fun hHeld => ?_); clear hm
      refine hC 0 (v := .int .i64 (p : Int)) rfl rfl (fun w' h => by
        have hc := h.2.1
        go_simp) ?_
      simp only [pS]; refine hS 1 (v := .bool false) rfl rfl ?_; simp only [pS]; refine hM 2 (v := .bool false) rfl rfl ?_; simp only [pS]
      refine gC 3 (v := .int .i64 (p : Int)) rfl (fun w' h => by
        have hc := h.2.1
        go_simp) ?_
      simp only [pS]
      refine gC 4 (v := ptr q) rfl (fun w' h => by
        have hc := h.1
        go_simp) ?_
      simp only [pS]; refine gS 5 (v := ptr q) rfl ?_; simp only [pS]; refine gS 6 (v := .pointer (some ⟨q, 5, none⟩)) rfl ?_; simp only [pS]
      refine gC 7 (v := .slice m.FA n m.fc) rfl (fun w' h => by
        have hc := h.2.2
        go_simp) ?_
      simp only [pS]; refine gS 8 (v := .int .i64 (n : Int)) rfl ?_; simp only [pS]; refine gS 9 (v := .bool true) rfl ?_; simp only [pS]; refine hS 10 (v := .bool true) rfl rfl ?_; simp only [pS]; refine hS 11 (v := .bool true) rfl rfl ?_; simp only [pS]; refine wpAnyH_done (by kernel_rfl) ?_ _; clear hHeld hS0; go_wp2_with fail; go_ret; exact InsP.no HV.out (by decide) HS.out HD.out.bl
    · have p2d : decide ((n : Int) < (p : Int)) = false := decide_eq_false (by omega); have HPN : Sl (p ≤ n) := ⟨by omega⟩; rw [if_neg (by omega)] at HE; have hm := hS0; refine wp_region_held_drew (S := fun w' => w'.cell? ⟨g3, 0, none⟩ = some (ptr q) ∧ w'.cell? ⟨g4, 0, none⟩ = some (.int .i64 (p : Int)) ∧ w'.cell? ⟨q, 5, none⟩ = some (.slice m.FA n m.fc)) (by kernel_rfl) hm (fun hHeld => ?_); clear hm
      refine hC 0 (v := .int .i64 (p : Int)) rfl rfl (fun w' h => by
        have hc := h.2.1
        go_simp) ?_
      simp only [pS]; refine hS 1 (v := .bool false) rfl rfl ?_; simp only [pS]; refine hM 2 (v := .bool false) rfl rfl ?_; simp only [pS]
      refine gC 3 (v := .int .i64 (p : Int)) rfl (fun w' h => by
        have hc := h.2.1
        go_simp) ?_
      simp only [pS]
      refine gC 4 (v := ptr q) rfl (fun w' h => by
        have hc := h.1
        go_simp) ?_
      simp only [pS]; refine gS 5 (v := ptr q) rfl ?_; simp only [pS]; refine gS 6 (v := .pointer (some ⟨q, 5, none⟩)) rfl ?_; simp only [pS]
      refine gC 7 (v := .slice m.FA n m.fc) rfl (fun w' h => by
        have hc := h.2.2
        go_simp) ?_
      simp only [pS]; refine gS 8 (v := .int .i64 (n : Int)) rfl ?_; simp only [pS]; refine gS 9 (v := .bool false) rfl ?_; simp only [pS]; refine hS 10 (v := .bool false) rfl rfl ?_; simp only [pS]; refine hS 11 (v := .bool false) rfl rfl ?_; simp only [pS]; refine wpAnyH_done (by kernel_rfl) ?_ _; clear hHeld hS0; generalize w4.drew = w5 at *
      go_wp2_with fail; have hb5 : Below w5.heap.size w5 w5.drew := below_drewN (Below.refl _ _) 1; have HQD : Sl (∀ W, Below w5.heap.size w5 W → Lg w W [(g5, 45, #[.slice r.A r.n r.c, .slice r.B r.m r.d]), (g4, 3, #[.int .i64 (p : Int)]), (g3, 24, #[ptr q])] ∧ SQ W base o m V) := ⟨fun W hW => ⟨HD.out.below hW, HS.out.below hW⟩⟩; have HRG : Sl (Calls Tryz.prog 42 #[.agg #[.slice o.A1 o.n1 o.c1, .slice o.A2 o.n2 o.c2, .slice o.A3 o.n3 o.c3, .slice o.A4 o.n4 o.c4], .agg #[.slice r.A r.n r.c, .slice r.B r.m r.d]] w5.drew fun e w' => e = .returned (.int .i64 (regE o r)) ∧ Below w5.drew.heap.size w5.drew w') := ⟨registration_any o r _ (HR.out.below (HQD.out _ hb5).1.bl) HF.out⟩; obtain ⟨E, hE⟩ : ∃ E, regE o r = E := ⟨_, rfl⟩; have HEE : Sl _ := ⟨hE⟩; rw [hE] at HRG HE; clear hE; have hm := hb5; refine wp_region_held_drew (S := fun w' => Below w5.heap.size w5 w') (by kernel_rfl) hm (fun hHeld => ?_); clear hm
      refine hC 0 (v := ptr q) rfl rfl (fun w' h => by
        have hc := ((HQD.out w' h).1.at_ 2 rfl).cell 0
        go_simp) ?_
      simp only [pS]; refine hS 1 (v := ptr q) rfl rfl ?_; simp only [pS]; refine hS 2 (v := .pointer (some ⟨q, 1, none⟩)) rfl rfl ?_; simp only [pS]; refine hL 3 33 (.tmp 26) rfl rfl rfl q 1 rfl #[.slice o.A1 o.n1 o.c1, .slice o.A2 o.n2 o.c2, .slice o.A3 o.n3 o.c3, .slice o.A4 o.n4 o.c4] _ (fun w' h => by have hb := (HQD.out w' h).2.blk; rw [HQ.out.1] at hb; have := World.rangeAt_of_block hb 1 4; exact this) Tryz.underlying33 rfl ?_; simp only [pS]; refine hL 4 45 (.tmp 5) rfl rfl rfl g5 0 rfl #[.slice r.A r.n r.c, .slice r.B r.m r.d] _ (fun w' h => by have := World.rangeAt_of_block ((HQD.out w' h).1.at_ 0 rfl) 0 2; exact this) Tryz.underlying45 rfl ?_; simp only [pS]; refine hO 5 rfl rfl fun K hK => ?_; go_simp; go_at_call 42
      (with_reducible refine (HRG.out).mono ?_)
      rintro e w6 ⟨rfl, hb⟩; have hb6 : Below w5.heap.size w5 w6 := hb5.trans (hb.mono hb5.size); clear hb; refine hK.out _ _ hb6 (fun hHeld => ?_); clear hK K
      (try simp only [pS])
      refine hS 6 (v := .int .i64 E) rfl rfl ?_; simp only [pS]; refine wpAnyH_done (by kernel_rfl) ?_ _; clear hHeld hb5; obtain ⟨h1, h2⟩ := HQD.out w6 hb6; replace HD : Sl _ := ⟨h1⟩; replace HS : Sl _ := ⟨h2⟩; clear h1 h2 hb6 HQD HRG
      by_cases e0 : E = 0
      · subst e0; rw [if_neg (by decide)] at HE; have c3 : w6.cell? ⟨g3, 0, none⟩ = some (ptr q) := (HD.out.at_ 2 rfl).cell 0; have c5 : w6.cell? ⟨q, 5, none⟩ = some (.slice m.FA n m.fc) := (by rw [← HQ.out.1, ← HQ.out.2.1]; exact HS.out.cell 5 rfl)
        by_cases p3 : 500 ≤ n
        · have p3d : decide ((500 : Int) ≤ (n : Int)) = true := decide_eq_true (by omega); have p3i : (500 : Int) ≤ (n : Int) := (by omega); have HV : Sl (insE o V (p : Int) r = 5) := ⟨by rw [HE.out, if_pos p3]⟩; go_wp2_with fail; go_ret; exact InsP.no HV.out (by decide) HS.out HD.out.bl
        · have p3d : decide ((500 : Int) ≤ (n : Int)) = false := decide_eq_false (by omega); have p3i : ¬ (500 : Int) ≤ (n : Int) := (by omega); have HV : Sl (insE o V (p : Int) r = 0 ∧ n < 500) := ⟨by rw [HE.out, if_neg p3], by omega⟩
          have HRL : Sl (r.n ≤ 1000000 ∧ r.m ≤ 1000000) := ⟨by
            obtain ⟨r1, r2⟩ := regE_ok HEE.out; have l1 := drwE_len r1; have l2 := drwE_len r2; have hs1 := HR.out.s.1; have hs2 := HR.out.c.1; have hbd := HBD.out.2.2.2.2
            omega⟩
          have d0 : w6.cell? ⟨g5, 0, none⟩ = some (.slice r.A r.n r.c) := (HD.out.at_ 0 rfl).cell 0; have d1 : w6.cell? ⟨g5, 1, none⟩ = some (.slice r.B r.m r.d) := (HD.out.at_ 0 rfl).cell 1; go_wp2_with fail; refine (copied_any r _ (HR.out.below HD.out.bl) HRL.out.1 HRL.out.2).mono ?_; rintro e w7 ⟨⟨A0, c0, B0, d0', rfl, ho⟩, hb⟩; have HRO : Sl (RgO w7 w6.heap.size ⟨A0, r.n, c0, r.l, B0, r.m, d0', r.k⟩) := ⟨ho⟩; have HW6 : Sl (w.heap.size ≤ w6.heap.size) := ⟨HD.out.bl.size⟩; replace HD : Sl _ := ⟨HD.out.below hb⟩; clear ho hb d0 d1 c3 c5 HS
          go_upto_region 11 with ((with_reducible show wpList _ _ _ _ _ _); (refine wpList_store_whole rfl 45 (.tmp 5) (.tmp 40) rfl g5 #[.slice A0 r.n c0, .slice B0 r.m d0'] rfl rfl 45 _ (HD.out.at_ 0 rfl) rfl (by kernel_rfl) (by simp [Value.oneCell']) ?_; rintro w8 zm zs zb; replace HRO : Sl _ := ⟨HRO.out.mv (HD.out.at_ 0 rfl) (by decide) zm⟩; replace HD : Sl _ := ⟨HD.out.upd zm zb⟩; clear zm zs zb))
          have HSW : Sl (SQ w8 base o (m.wide w.heap.size w8.heap.size) V ∧ Foot m (m.wide w.heap.size w8.heap.size) w w8) := ⟨H.out.widen (MvP.of_below HD.out.bl) (fun _ e => e.elim)⟩
          have HED : Sl (EdF w8 (m.wide w.heap.size w8.heap.size).imm m.q (.ins p ⟨A0, r.n, c0, r.l, B0, r.m, d0', r.k⟩) (.func (.func 47) #[] #[ptr g3, ptr g4]) (.func (.func 45) #[] #[ptr g3, ptr g4, ptr g5])) := ⟨by
            have x3 := HD.out.at_ 2 rfl; have x4 := HD.out.at_ 1 rfl; have x5 := HD.out.at_ 0 rfl; have y5 := HD.out.ld.ge _ List.mem_cons_self; have y4 := HD.out.ld.ge _ (List.mem_cons_of_mem _ List.mem_cons_self); have y3 := HD.out.ld.ge _ (List.mem_cons_of_mem _ (List.mem_cons_of_mem _ List.mem_cons_self))
            exact ⟨g3, g4, g5, .inr ⟨y3, x3.lt⟩, .inr ⟨y4, x4.lt⟩, .inr ⟨y5, x5.lt⟩, rfl, rfl, by rw [HQ.out.1]; exact x3, x4, x5, Dep.reg HRO.out (fun i h1 h2 => .inr ⟨Nat.le_trans HW6.out h1, h2⟩)⟩⟩
          have c3 : w8.cell? ⟨g3, 0, none⟩ = some (ptr q) := (HD.out.at_ 2 rfl).cell 0; have c4 : w8.cell? ⟨g4, 0, none⟩ = some (.int .i64 (p : Int)) := (HD.out.at_ 1 rfl).cell 0; have c6 : w8.cell? ⟨q, 6, none⟩ = some (.int .i64 (V.p : Int)) := (by rw [← HQ.out.1]; exact HSW.out.1.cell 6 rfl); have hvp : (V.p : Int) ≤ 500 := (by have := HBD.out; unfold SqB at this; omega); have hok : (Ed.ins p (⟨A0, r.n, c0, r.l, B0, r.m, d0', r.k⟩ : RgV)).ok V.L := ⟨by have := HPN.out; have := HQ.out; omega, by have := HV.out; have := HQ.out; omega⟩
          have HDO : Sl (∀ pos : Nat, Calls Tryz.prog 44 #[ptr q, .int .i64 (pos : Int), .func (.func 45) #[] #[ptr g3, ptr g4, ptr g5], .func (.func 47) #[] #[ptr g3, ptr g4]] w8 fun en w' => en = .returned (.tuple #[]) ∧ ∃ m', SQ w' base o m' (V.does (.ins p ⟨A0, r.n, c0, r.l, B0, r.m, d0', r.k⟩) pos) ∧ Foot (m.wide w.heap.size w8.heap.size) m' w8 w') := ⟨fun pos => by
            have h := does_any base o (m.wide w.heap.size w8.heap.size) V _ pos _ _ _ _ w8 HSW.out.1 HBD.out.1 HBD.out.2.1 HBD.out.2.2.1 hok HED.out; rw [show (m.wide w.heap.size w8.heap.size).q = q from HQ.out.1] at h
            exact h⟩
          clear hok HED; have hmf : ∀ (fn : Fn) (first cap : Array Value) (w : World), (Instr.makeFunc fn first cap).run Tryz.prog w = .ok (.func fn first cap) w := fun _ _ _ _ => rfl
          by_cases p4 : p < V.p
          · have p4d : decide ((p : Int) < (V.p : Int)) = true := decide_eq_true (by omega); have p4i : (p : Int) < (V.p : Int) := (by omega); go_wp2_with fail; refine (HDO.out (V.p + 1)).mono ?_; rintro en w9 ⟨rfl, m', h1, h2⟩; have HX : Sl (InsP base o m V (p : Int) r w (.returned (.int .i64 0)) w9) := ⟨⟨by rw [HV.out.1], m', ⟨A0, r.n, c0, r.l, B0, r.m, d0', r.k⟩, ⟨rfl, rfl⟩, by rw [if_pos HV.out.1, if_pos (by omega), Int.toNat_natCast]; exact h1, HSW.out.2.trans h2⟩⟩; clear h1 h2 HDO c3 c4 c6; go_wp2_with fail; go_ret; exact HX.out
          · have p4d : decide ((p : Int) < (V.p : Int)) = false := decide_eq_false (by omega); have p4i : ¬ (p : Int) < (V.p : Int) := (by omega); go_wp2_with fail; refine (HDO.out V.p).mono ?_; rintro en w9 ⟨rfl, m', h1, h2⟩; have HX : Sl (InsP base o m V (p : Int) r w (.returned (.int .i64 0)) w9) := ⟨⟨by rw [HV.out.1], m', ⟨A0, r.n, c0, r.l, B0, r.m, d0', r.k⟩, ⟨rfl, rfl⟩, by rw [if_pos HV.out.1, if_neg (by omega), Int.toNat_natCast]; exact h1, HSW.out.2.trans h2⟩⟩; clear h1 h2 HDO c3 c4 c6; go_wp2_with fail; go_ret; exact HX.out
      · have e1 : (E != 0) = true := (by simp [e0]); have HV : Sl (insE o V (p : Int) r = E) := ⟨by rw [HE.out, if_pos e0]⟩; have HE0 : Sl _ := ⟨e0⟩; clear e0; go_wp2_with fail; go_ret; exact InsP.no HV.out HE0.out HS.out HD.out.bl
structure StO where
  A : Option Addr
  c : Nat
  L : List RgV
  p : Nat
def StO.cells (s : StO) : List Value := [.slice s.A s.L.length s.c, .int .i64 (s.p : Int)]
def StO.st (s : StO) : StV (List Int × List Int) := ⟨s.L.map RgV.v, s.p⟩
def so0 : StO := ⟨none, 0, [], 0⟩
def StO.ok (w : World) (imm : Nat → Prop) (s : StO) : Prop := Dep w imm fun w' => TbM w' s.A s.L.length s.c s.L
theorem StO.ok.go {w w' : World} {imm p : Nat → Prop} {s : StO} (h : s.ok w imm) (hm : MvP p w w') (hp : ∀ i, imm i → ¬ p i) : s.ok w' imm := Dep.go h hm hp
theorem StO.ok.more {w : World} {imm imm' : Nat → Prop} {s : StO} (h : s.ok w imm) (hi : ∀ i, imm i → imm' i) : s.ok w imm' := Dep.more h hi
theorem tb_nil (w : World) : TbM w none 0 0 [] := ⟨RowG.nil _ _ _ _ (fun _ => rfl), ⟨Nat.le_refl _, by decide⟩, fun r hr => by cases hr⟩
theorem so0_ok (w : World) (imm : Nat → Prop) : so0.ok w imm := fun w' _ => tb_nil w'
theorem rowG_own {w : World} {base n c : Nat} {t : TypeId} {A : Option Addr} {L : List RgV} (h : w.ownsRow base t 2 (.slice A n c) n (L.flatMap RgV.cells)) : RowG w A n 2 RgV.cells L ∧ n ≤ c ∧ c ≤ maxLen := by
  have hl : L.length = n := by
    have h1 := h.1
    have h2 : (L.flatMap RgV.cells).length = L.length * 2 := by
      clear h h1
      induction L with
      | nil => rfl
      | cons x L ih => rw [List.flatMap_cons, List.length_append, ih, List.length_cons]; show 2 + _ = _; omega
    omega
  refine ⟨⟨hl, Reads.of_own h, fun _ => rfl⟩, ?_⟩; rcases h.2 with ⟨h0, _⟩ | ⟨b, cap, cur, e1, _, _, h1, h2, _⟩
  · injection h0 with _ b c
    subst b c; exact ⟨Nat.le_refl _, by decide⟩
  · injection e1 with _ _ c
    subst c; exact ⟨h1, h2⟩
theorem Dep.tb {w : World} {base n c : Nat} {imm : Nat → Prop} {t : TypeId} {A : Option Addr} {L : List RgV} (h : w.ownsRow base t 2 (.slice A n c) n (L.flatMap RgV.cells)) (hi : ∀ i, blkOf A i → imm i) (hr : ∀ r ∈ L, Dep w imm fun w' => RgM w' r) :
    Dep w imm fun w' => TbM w' A n c L := fun w' hm => by
  obtain ⟨h1, h2⟩ := rowG_own (hm.own h (fun k hk e => e (hi k (blkOf_own.2 hk)))); exact ⟨h1, h2, fun r hr' => hr r hr' w' hm⟩
theorem Dep.tb_all {w : World} {n c : Nat} {imm : Nat → Prop} {A : Option Addr} {L : List RgV} (h : Dep w imm fun w' => TbM w' A n c L) : ∀ r ∈ L, Dep w imm fun w' => RgM w' r := fun r hr w' hm => (h w' hm).all r hr
theorem mem_ins {L : List RgV} {p : Nat} {r x : RgV} (h : x ∈ insL L p r) : x ∈ L ∨ x = r := by
  unfold insL at h; rcases List.mem_append.1 h with h | h
  · exact .inl (List.mem_of_mem_take h)
  · rcases List.mem_cons.1 h with h | h
    · exact .inr h
    · exact .inl (List.mem_of_mem_drop h)
theorem mem_del {L : List RgV} {p : Nat} {x : RgV} (h : x ∈ delL L p) : x ∈ L := by
  unfold delL at h; rcases List.mem_append.1 h with h | h
  · exact List.mem_of_mem_take h
  · exact List.mem_of_mem_drop h
structure RqV where
  N : StO
  E : List (StO × StO)
  d : Nat
def RqV.rs (R : RqV) : RsV (List Int × List Int) := ⟨R.N.L.map RgV.v, R.N.p, R.E.map fun e => (e.1.st, e.2.st), R.d⟩
def edR (e : StO × StO) : List Value := e.1.cells ++ e.2.cells
def rqC (o : SpO) (m : SqM) (R : RqV) : Array Value :=
  #[.slice o.A1 o.n1 o.c1, .slice o.A2 o.n2 o.c2, .slice o.A3 o.n3 o.c3, .slice o.A4 o.n4 o.c4, .slice R.N.A R.N.L.length R.N.c, .int .i64 (R.N.p : Int), .slice m.EA R.E.length m.ec, .int .i64 (R.d : Int)]
structure ERow (w : World) (base : Nat) (A : Option Addr) (n c : Nat) (xs : List Value) : Prop where
  len : xs.length = n * 4
  cap : n ≤ c ∧ c ≤ maxLen
  one : ∀ u ∈ xs, u.oneCell' = true
  at_ : (A = none ∧ n = 0 ∧ c = 0) ∨ ∃ b off cs, A = some ⟨b, off, none⟩ ∧ base ≤ b ∧ Blk w b 114 cs ∧ off + n * 4 ≤ cs.size ∧ ∀ j u, xs[j]? = some u → cs[off + j]? = some u
theorem ERow.keep {w w' : World} {base n c : Nat} {A : Option Addr} {xs : List Value} {p : Nat → Prop} (h : ERow w base A n c xs) (hm : MvP p w w') (hp : ∀ i, blkOf A i → ¬ p i) : ERow w' base A n c xs :=
  ⟨h.len, h.cap, h.one, h.at_.imp id fun ⟨b, off, cs, e, hb, hB, hs, hc⟩ => ⟨b, off, cs, e, hb, hm.blk hB (hp b ⟨_, e, rfl⟩), hs, hc⟩⟩
theorem ERow.reads {w : World} {base n c : Nat} {A : Option Addr} {xs : List Value} (h : ERow w base A n c xs) : Reads w w.heap.size 4 A n xs := by
  refine ⟨h.len, fun hn => ?_⟩; rcases h.at_ with ⟨_, h0, _⟩ | ⟨b, off, cs, e, hb, hB, _, hc⟩
  · omega
  · refine ⟨_, e, hB.lt, fun j u hu => ?_⟩; rw [Addr.add_mid]; exact (hB.cell _).trans (hc j u hu)
theorem ERow.lt {w : World} {base n c : Nat} {A : Option Addr} {xs : List Value} (h : ERow w base A n c xs) {i : Nat} (hi : blkOf A i) : base ≤ i ∧ i < w.heap.size := by
  obtain ⟨ad, rfl, rfl⟩ := hi; rcases h.at_ with ⟨e, _⟩ | ⟨b, off, cs, e, hb, hB, _⟩
  · cases e
  · injection e with e
    subst e; exact ⟨hb, hB.lt⟩
theorem ERow.of_own {w : World} {base n c : Nat} {A : Option Addr} {xs : List Value} (h : w.ownsRow base 114 4 (.slice A n c) n xs) (h1 : ∀ u ∈ xs, u.oneCell' = true) : ERow w base A n c xs := by
  refine ⟨h.1, ?_, h1, ?_⟩
  · rcases h.2 with ⟨h0, _⟩ | ⟨b, cap, cur, e1, _, _, h1, h2, _⟩
    · injection h0 with _ b c
      subst b c; exact ⟨Nat.le_refl _, by decide⟩
    · injection e1 with _ _ c
      subst c; exact ⟨h1, h2⟩
  · rcases h.2 with ⟨h0, _⟩ | ⟨b, cap, cur, e1, hb, hh, h2, h3, hs, ht⟩
    · injection h0 with a b c
      exact .inl ⟨a, b, c⟩
    · injection e1 with a _ c
      subst a c; refine .inr ⟨b, 0, cur, rfl, hb, hh, by rw [Nat.zero_add, hs]; exact Nat.mul_le_mul_right _ h2, fun j u hu => ?_⟩; have hj := (List.getElem?_eq_some_iff.1 hu).1; have hl := h.1; rw [← ht, List.getElem?_take_of_lt (by omega), Array.getElem?_toList] at hu; rw [Nat.zero_add]; exact hu
theorem ERow.drop1 {w : World} {base n c : Nat} {ad : Addr} {xs : List Value} (h : ERow w base (some ad) n c xs) (hn : 1 ≤ n) : ERow w base (some ⟨ad.block, ad.off + 4, none⟩) (n - 1) (c - 1) (xs.drop 4) := by
  have hl := h.len; have hc := h.cap; refine ⟨by rw [List.length_drop]; omega, ⟨by omega, by omega⟩, fun u hu => h.one u (List.mem_of_mem_drop hu), .inr ?_⟩; rcases h.at_ with ⟨e, _⟩ | ⟨b, off, cs, e, hb, hB, hs, hcs⟩
  · cases e
  · injection e with e
    subst e; refine ⟨b, off + 4, cs, rfl, hb, hB, by omega, fun j u hu => ?_⟩; rw [List.getElem?_drop] at hu; rw [Nat.add_assoc]; exact hcs _ _ hu
theorem edR_len (e : StO × StO) : (edR e).length = 4 := rfl
theorem edR_one (E : List (StO × StO)) : ∀ u ∈ E.flatMap edR, u.oneCell' = true := fun u hu => by
  obtain ⟨e, _, h⟩ := List.mem_flatMap.1 hu; have h : u ∈ [Value.slice e.1.A e.1.L.length e.1.c, .int .i64 (e.1.p : Int), .slice e.2.A e.2.L.length e.2.c, .int .i64 (e.2.p : Int)] := h; simp only [List.mem_cons, List.not_mem_nil, or_false] at h; rcases h with rfl | rfl | rfl | rfl <;> rfl
structure RQ (w : World) (base : Nat) (o : SpO) (m : SqM) (R : RqV) : Prop where
  fa : m.FA = none
  blk : Blk w m.q 41 (rqC o m R)
  qb : base ≤ m.q
  ed : ERow w base m.EA R.E.length m.ec (R.E.flatMap edR)
  ni : ∀ i, m.own i → ¬ m.imm i
  lt : ∀ i, m.imm i → i < w.heap.size
  sp : Dep w m.imm fun w' => SpM w' o
  nw : R.N.ok w m.imm
  ev : ∀ e ∈ R.E, e.1.ok w m.imm ∧ e.2.ok w m.imm
theorem RQ.keep {w w' : World} {base : Nat} {o : SpO} {m : SqM} {R : RqV} (h : RQ w base o m R) {p : Nat → Prop} (hm : MvP p w w') (hp : ∀ i, m.held i → ¬ p i) : RQ w' base o m R := by
  have hi : ∀ i, m.imm i → ¬ p i := fun i e => hp i (.inr e)
  exact ⟨h.fa, hm.blk h.blk (hp _ (.inl (.inl rfl))), h.qb, h.ed.keep hm (fun i e => hp i (.inl (.inr (.inr e)))), h.ni, fun i e => Nat.lt_of_lt_of_le (h.lt i e) hm.size, h.sp.go hm hi, h.nw.go hm hi, fun e he => ⟨(h.ev e he).1.go hm hi, (h.ev e he).2.go hm hi⟩⟩
theorem RQ.below {w w' : World} {base : Nat} {o : SpO} {m : SqM} {R : RqV} (h : RQ w base o m R) (hb : Below w.heap.size w w') : RQ w' base o m R := h.keep (MvP.of_below hb) (fun _ _ e => e)
theorem RQ.held_lt {w : World} {base : Nat} {o : SpO} {m : SqM} {R : RqV} (h : RQ w base o m R) {i : Nat} (hi : m.held i) : i < w.heap.size := by
  rcases hi with hi | hi
  · rcases hi with hi | hi | hi
    · rw [hi]; exact h.blk.lt
    · rw [h.fa] at hi; obtain ⟨_, e, _⟩ := hi; cases e
    · exact (h.ed.lt hi).2
  · exact h.lt i hi
theorem RQ.cell {w : World} {base : Nat} {o : SpO} {m : SqM} {R : RqV} (h : RQ w base o m R) (j : Nat) {v : Value} (hv : (rqC o m R)[j]? = some v) : w.cell? ⟨m.q, j, none⟩ = some v := (h.blk.cell j).trans hv
theorem RQ.more {w : World} {base : Nat} {o : SpO} {m : SqM} {R : RqV} (h : RQ w base o m R) {imm' : Nat → Prop} (hi : ∀ i, m.imm i → imm' i) (hn : ∀ i, m.own i → ¬ imm' i) (hl : ∀ i, imm' i → i < w.heap.size) : RQ w base o { m with imm := imm' } R :=
  ⟨h.fa, h.blk, h.qb, h.ed, hn, hl, h.sp.more hi, h.nw.more hi, fun e he => ⟨(h.ev e he).1.more hi, (h.ev e he).2.more hi⟩⟩
theorem RQ.widen {w w' : World} {base : Nat} {o : SpO} {m : SqM} {R : RqV} (h0 : RQ w base o m R) {p : Nat → Prop} (hm : MvP p w w') (hp : ∀ i, p i → w.heap.size ≤ i) : RQ w' base o (m.wide w.heap.size w'.heap.size) R ∧ Foot m (m.wide w.heap.size w'.heap.size) w w' := by
  have h : RQ w' base o m R := h0.keep hm (fun i hi e => by have := h0.held_lt hi; have := hp i e; omega); refine ⟨h.more (fun i e => .inl e) (fun i e hi => ?_) (fun i hi => ?_), ⟨⟨hm.os, hm.tape, hm.output, hm.size, fun k hk hn => hm.block k hk (fun e => by have := hp k e; omega)⟩, fun i e => ?_, fun i e => .inl e, rfl⟩⟩
  · rcases hi with hi | hi
    · exact h.ni i e hi
    · have := h0.held_lt (.inl e); omega
  · rcases hi with hi | hi
    · exact h.lt i hi
    · exact hi.2
  · rcases e with e | e | e
    · exact .inl (.inl e)
    · exact .inl (.inr e)
    · exact .inr e.1
def RqV.edit (R : RqV) (s : StO) : RqV := ⟨s, trim (R.E.take R.d ++ [(R.N, so0)]), (trim (R.E.take R.d ++ [(R.N, so0)])).length⟩
theorem RqV.edit_rs (R : RqV) (s : StO) : (R.edit s).rs = R.rs.edit (s.L.map RgV.v) s.p := by
  have h : (trim (R.E.take R.d ++ [(R.N, so0)])).map (fun e => (e.1.st, e.2.st)) = trim (R.rs.E.take R.rs.d ++ [(⟨R.rs.L, R.rs.p⟩, ⟨[], 0⟩)]) := by
    rw [← trim_map, List.map_append, List.map_take]; rfl
  unfold RsV.edit; rw [← h, List.length_map]; rfl
theorem mem_trim {α : Type} {l : List α} {x : α} (h : x ∈ trim l) : x ∈ l := by
  unfold trim at h
  split at h
  · exact List.mem_of_mem_drop h
  · exact h
theorem RQ.edits {w w' : World} {base : Nat} {o : SpO} {m : SqM} {R : RqV} (h : RQ w base o m R) {EA : Option Addr} {ec : Nat} {s : StO} {E : List (StO × StO)} {d : Nat}
    (hb : Blk w' m.q 41 (rqC o { m with EA := EA, ec := ec } ⟨s, E, d⟩)) (he : ERow w' base EA E.length ec (E.flatMap edR)) (hm : MvP m.own w w') (hat : ∀ i, blkOf EA i → m.own i ∨ w.heap.size ≤ i)
    (hs : s.ok w m.imm) (hE : ∀ e ∈ E, e.1.ok w m.imm ∧ e.2.ok w m.imm) : RQ w' base o { m with EA := EA, ec := ec } ⟨s, E, d⟩ ∧ Foot m { m with EA := EA, ec := ec } w w' := by
  have hni : ∀ i, m.imm i → ¬ m.own i := fun i hi e => h.ni i e hi
  have hown : ∀ i, SqM.own { m with EA := EA, ec := ec } i → m.own i ∨ w.heap.size ≤ i := fun i e => by
    rcases e with e | e | e
    · exact .inl (.inl e)
    · exact .inl (.inr (.inl e))
    · exact hat i e
  refine ⟨⟨h.fa, hb, h.qb, he, fun i e hi => ?_, fun i e => Nat.lt_of_lt_of_le (h.lt i e) hm.size, h.sp.go hm hni, hs.go hm hni, fun e h2 => ⟨(hE e h2).1.go hm hni, (hE e h2).2.go hm hni⟩⟩, ⟨hm, fun i e => ?_, hown, rfl⟩⟩
  · rcases hown i e with e | e
    · exact h.ni i e hi
    · have := h.lt i hi; omega
  · rcases e with e | e
    · exact (hown i e).imp .inl id
    · exact .inl (.inr e)
def RqV.undo (R : RqV) : RqV := match R.E[R.d - 1]? with
  | none => R
  | some x => ⟨x.1, R.E.set (R.d - 1) (x.1, R.N), R.d - 1⟩
def RqV.redo (R : RqV) : RqV := match R.E[R.d]? with
  | none => R
  | some x => ⟨x.2, R.E, R.d + 1⟩
theorem RqV.undo_at {R : RqV} {x : StO × StO} (h : R.E[R.d - 1]? = some x) : R.undo = ⟨x.1, R.E.set (R.d - 1) (x.1, R.N), R.d - 1⟩ := by unfold RqV.undo; rw [h]
theorem RqV.redo_at {R : RqV} {x : StO × StO} (h : R.E[R.d]? = some x) : R.redo = ⟨x.2, R.E, R.d + 1⟩ := by unfold RqV.redo; rw [h]
theorem RqV.undo_rs (R : RqV) : R.undo.rs = R.rs.undo := by
  have h : R.rs.E[R.rs.d - 1]? = (R.E[R.d - 1]?).map (fun e => (e.1.st, e.2.st)) := (by simp [RqV.rs])
  cases hx : R.E[R.d - 1]? with
  | none => rw [hx] at h; unfold RqV.undo RsV.undo; rw [hx]; simp only [Option.map_none] at h; rw [h]
  | some x =>
    rw [hx] at h; rw [RqV.undo_at hx, RsV.undo_at h]; simp only [RqV.rs, StO.st, List.map_set]
theorem RqV.redo_rs (R : RqV) : R.redo.rs = R.rs.redo := by
  have h : R.rs.E[R.rs.d]? = (R.E[R.d]?).map (fun e => (e.1.st, e.2.st)) := (by simp [RqV.rs])
  cases hx : R.E[R.d]? with
  | none => rw [hx] at h; unfold RqV.redo RsV.redo; rw [hx]; simp only [Option.map_none] at h; rw [h]
  | some x =>
    rw [hx] at h; rw [RqV.redo_at hx, RsV.redo_at h]; simp only [RqV.rs, StO.st]
structure Duo (w0 w : World) (oq o : SpO) (m m2 : SqM) (V : SqV RgV) (R : RqV) : Prop where
  q : SQ w w0.heap.size oq m V
  r : RQ w w0.heap.size o m2 R
  a : ∀ i, m.held i → ¬ m2.own i
  b : ∀ i, m2.held i → ¬ m.own i
  bl : Below w0.heap.size w0 w
section
variable {w0 w w' : World} {oq o : SpO} {m m2 m' : SqM} {V V' : SqV RgV} {R R' : RqV}
theorem SQ.own_ge (h : SQ w w0.heap.size oq m V) {i : Nat} (hi : m.own i) : w0.heap.size ≤ i := by
  rcases hi with hi | hi | hi
  · rw [hi]; exact h.qb
  · exact (own_lt2 h.fr (blkOf_own.1 hi)).1
  · exact (own_lt2 h.ed (blkOf_own.1 hi)).1
theorem RQ.own_ge (h : RQ w w0.heap.size o m R) {i : Nat} (hi : m.own i) : w0.heap.size ≤ i := by
  rcases hi with hi | hi | hi
  · rw [hi]; exact h.qb
  · rw [h.fa] at hi; obtain ⟨_, e, _⟩ := hi; cases e
  · exact (h.ed.lt hi).1
theorem Duo.below (h : Duo w0 w oq o m m2 V R) (hb : Below w.heap.size w w') : Duo w0 w' oq o m m2 V R :=
  ⟨h.q.below hb, h.r.below hb, h.a, h.b, h.bl.trans (hb.mono h.bl.size)⟩
theorem Duo.stepq (h : Duo w0 w oq o m m2 V R) (hs : SQ w' w0.heap.size oq m' V') (hf : Foot m m' w w') : Duo w0 w' oq o m' m2 V' R :=
  ⟨hs, h.r.keep hf.mv (fun i hi => h.b i hi), fun i hi e => (hf.held i hi).elim (fun k => h.a i k e) (fun k => by have := h.r.held_lt (.inl e); omega),
    fun i hi e => (hf.own i e).elim (fun k => h.b i hi k) (fun k => by have := h.r.held_lt hi; omega), hf.mv.below h.bl h.bl.size (fun i e => h.q.own_ge e)⟩
theorem Duo.stepr (h : Duo w0 w oq o m m2 V R) (hs : RQ w' w0.heap.size o m' R') (hf : Foot m2 m' w w') : Duo w0 w' oq o m m' V R' :=
  ⟨h.q.keep hf.mv (fun i hi => h.a i hi), hs, fun i hi e => (hf.own i e).elim (fun k => h.a i hi k) (fun k => by have := h.q.held_lt hi; omega),
    fun i hi e => (hf.held i hi).elim (fun k => h.b i k e) (fun k => by have := h.q.held_lt (.inl e); omega), hf.mv.below h.bl h.bl.size (fun i e => h.r.own_ge e)⟩
end
def delE (V : SqV RgV) (z : Int) : Int := if z < 0 ∨ (V.L.length : Int) ≤ z then 7 else 0
def DelP (base : Nat) (o : SpO) (m : SqM) (V : SqV RgV) (z : Int) (w : World) (en : Ending) (w' : World) : Prop :=
  en = .returned (.int .i64 (delE V z)) ∧ ∃ m', (delE V z ≠ 0 → SQ w' base o m' V) ∧ (delE V z = 0 → ∃ x, V.L[z.toNat]? = some x ∧ SQ w' base o m' (V.does (.del z.toNat x) (if z < (V.p : Int) then V.p - 1 else V.p))) ∧ Foot m m' w w'
theorem DelP.no {base : Nat} {o : SpO} {m : SqM} {V : SqV RgV} {z : Int} {w w' : World} (hv : delE V z = 7) (hs : SQ w' base o m V) (hb : Below w.heap.size w w') : DelP base o m V z w (.returned (.int .i64 7)) w' :=
  ⟨by rw [hv], m, fun _ => hs, fun h => (by rw [hv] at h; cases h), Foot.of_below hb⟩
theorem qDelete_any (base : Nat) (o : SpO) (m : SqM) (V : SqV RgV) (z : Int) (w : World) (h : SQ w base o m V) (hB : SqB o V) :
    Calls Tryz.prog 24 #[ptr m.q, .int .i64 z] w fun en w' => DelP base o m V z w en w' := by
  have H : Sl _ := ⟨h⟩; have HBD : Sl _ := ⟨hB⟩; have HD : Sl (Lg w w []) := ⟨Lg.nil w⟩; obtain ⟨q, hq⟩ : ∃ q, m.q = q := ⟨_, rfl⟩; obtain ⟨n, hn⟩ : ∃ n, V.L.length = n := ⟨_, rfl⟩; have HQ : Sl (m.q = q ∧ V.L.length = n ∧ n ≤ 500) := ⟨⟨hq, hn, by have := hB.2.2.1; omega⟩⟩; have HE : Sl (delE V z = if z < 0 ∨ (n : Int) ≤ z then 7 else 0) := ⟨by rw [← hn]; rfl⟩; have hn500 : (n : Int) ≤ 500 := (by have := HQ.out; omega); rw [hq]; clear h hB hq hn; go_enter Tryz.func24, Tryz.ntmps24
  go_upto_region 1 with ((with_reducible show wpList _ _ _ _ _ _); first
    | (refine wpList_box_one 2 rfl rfl 24 (.tmp 0) rfl (ptr q) rfl (fun _ => by kernel_rfl) ?_; rintro w1 g2 zg zm zs zb; replace HD : Sl _ := ⟨HD.out.new zg zm zb⟩; clear zg zm zs zb)
    | (refine wpList_box_one 3 rfl rfl 3 (.tmp 1) rfl (.int .i64 z) rfl (fun _ => by kernel_rfl) ?_; rintro w3 g3 zg zm zs zb; replace HD : Sl _ := ⟨HD.out.new zg zm zb⟩; clear zg zm zs zb))
  have HS : Sl (SQ w3 base o m V) := ⟨H.out.below HD.out.bl⟩; have c3 : w3.cell? ⟨g2, 0, none⟩ = some (ptr q) := (HD.out.at_ 1 rfl).cell 0; have HC0 : Sl _ := ⟨isq_any q w3 (by rw [← HQ.out.1]; exact HS.out.cell 0 rfl)⟩; go_wp2_with fail; refine HC0.out.mono ?_; rintro en w4 ⟨rfl, rfl⟩; clear HC0; have c4 : w4.cell? ⟨g3, 0, none⟩ = some (.int .i64 z) := (HD.out.at_ 0 rfl).cell 0; have c5 : w4.cell? ⟨q, 5, none⟩ = some (.slice m.FA n m.fc) := (by rw [← HQ.out.1, ← HQ.out.2.1]; exact HS.out.cell 5 rfl); have hS0 : w4.drew.cell? ⟨g2, 0, none⟩ = some (ptr q) ∧ w4.drew.cell? ⟨g3, 0, none⟩ = some (.int .i64 z) ∧ w4.drew.cell? ⟨q, 5, none⟩ = some (.slice m.FA n m.fc) := ⟨c3, c4, c5⟩; have hb4 : Below w4.heap.size w4 w4.drew := below_drewN (Below.refl _ _) 1; go_wp2_with fail; clear c3 c4 c5; replace HD : Sl (Lg w w4.drew [(g3, 3, #[.int .i64 z]), (g2, 24, #[ptr q])]) := ⟨HD.out.below hb4⟩; replace HS : Sl (SQ w4.drew base o m V) := ⟨HS.out.below hb4⟩; clear hb4
  by_cases p1 : z < 0
  · have p1d : decide (z < 0) = true := decide_eq_true p1; have HV : Sl (delE V z = 7) := ⟨by rw [HE.out]; exact if_pos (.inl p1)⟩; have hm := hS0; refine wp_region_held_drew (S := fun w' => w'.cell? ⟨g2, 0, none⟩ = some (ptr q) ∧ w'.cell? ⟨g3, 0, none⟩ = some (.int .i64 z) ∧ w'.cell? ⟨q, 5, none⟩ = some (.slice m.FA n m.fc)) (by kernel_rfl) hm (fun hHeld => ?_); clear hm
    refine hC 0 (v := .int .i64 z) rfl rfl (fun w' h => by
      have hc := h.2.1
      go_simp) ?_
    simp only [pS]; refine hS 1 (v := .bool true) rfl rfl ?_; simp only [pS]; refine hM 2 (v := .bool true) rfl rfl ?_; simp only [pS]; refine gN 3 rfl ?_; simp only [pS]; refine gN 4 rfl ?_; simp only [pS]; refine gN 5 rfl ?_; simp only [pS]; refine gN 6 rfl ?_; simp only [pS]; refine gN 7 rfl ?_; simp only [pS]; refine gN 8 rfl ?_; simp only [pS]; refine gN 9 rfl ?_; simp only [pS]; refine hS 10 (v := .bool true) rfl rfl ?_; simp only [pS]; refine hS 11 (v := .bool true) rfl rfl ?_; simp only [pS]; refine wpAnyH_done (by kernel_rfl) ?_ _; clear hHeld hS0; go_wp2_with fail; go_ret; exact DelP.no HV.out HS.out HD.out.bl
  · have p1d : decide (z < 0) = false := decide_eq_false p1; obtain ⟨p, rfl⟩ := Int.eq_ofNat_of_zero_le (show 0 ≤ z by omega)
    by_cases p2 : n ≤ p
    · have p2d : decide ((n : Int) ≤ (p : Int)) = true := decide_eq_true (by omega); have HV : Sl (delE V (p : Int) = 7) := ⟨by rw [HE.out]; exact if_pos (.inr (by omega))⟩; have hm := hS0; refine wp_region_held_drew (S := fun w' => w'.cell? ⟨g2, 0, none⟩ = some (ptr q) ∧ w'.cell? ⟨g3, 0, none⟩ = some (.int .i64 (p : Int)) ∧ w'.cell? ⟨q, 5, none⟩ = some (.slice m.FA n m.fc)) (by kernel_rfl) hm (fun hHeld => ?_); clear hm
      refine hC 0 (v := .int .i64 (p : Int)) rfl rfl (fun w' h => by
        have hc := h.2.1
        go_simp) ?_
      simp only [pS]; refine hS 1 (v := .bool false) rfl rfl ?_; simp only [pS]; refine hM 2 (v := .bool false) rfl rfl ?_; simp only [pS]
      refine gC 3 (v := .int .i64 (p : Int)) rfl (fun w' h => by
        have hc := h.2.1
        go_simp) ?_
      simp only [pS]
      refine gC 4 (v := ptr q) rfl (fun w' h => by
        have hc := h.1
        go_simp) ?_
      simp only [pS]; refine gS 5 (v := ptr q) rfl ?_; simp only [pS]; refine gS 6 (v := .pointer (some ⟨q, 5, none⟩)) rfl ?_; simp only [pS]
      refine gC 7 (v := .slice m.FA n m.fc) rfl (fun w' h => by
        have hc := h.2.2
        go_simp) ?_
      simp only [pS]; refine gS 8 (v := .int .i64 (n : Int)) rfl ?_; simp only [pS]; refine gS 9 (v := .bool true) rfl ?_; simp only [pS]; refine hS 10 (v := .bool true) rfl rfl ?_; simp only [pS]; refine hS 11 (v := .bool true) rfl rfl ?_; simp only [pS]; refine wpAnyH_done (by kernel_rfl) ?_ _; clear hHeld hS0; go_wp2_with fail; go_ret; exact DelP.no HV.out HS.out HD.out.bl
    · have p2d : decide ((n : Int) ≤ (p : Int)) = false := decide_eq_false (by omega); have HPN : Sl (p < n) := ⟨by omega⟩; have HV : Sl (delE V (p : Int) = 0) := ⟨by rw [HE.out, if_neg (by omega)]⟩; have hm := hS0; refine wp_region_held_drew (S := fun w' => w'.cell? ⟨g2, 0, none⟩ = some (ptr q) ∧ w'.cell? ⟨g3, 0, none⟩ = some (.int .i64 (p : Int)) ∧ w'.cell? ⟨q, 5, none⟩ = some (.slice m.FA n m.fc)) (by kernel_rfl) hm (fun hHeld => ?_); clear hm
      refine hC 0 (v := .int .i64 (p : Int)) rfl rfl (fun w' h => by
        have hc := h.2.1
        go_simp) ?_
      simp only [pS]; refine hS 1 (v := .bool false) rfl rfl ?_; simp only [pS]; refine hM 2 (v := .bool false) rfl rfl ?_; simp only [pS]
      refine gC 3 (v := .int .i64 (p : Int)) rfl (fun w' h => by
        have hc := h.2.1
        go_simp) ?_
      simp only [pS]
      refine gC 4 (v := ptr q) rfl (fun w' h => by
        have hc := h.1
        go_simp) ?_
      simp only [pS]; refine gS 5 (v := ptr q) rfl ?_; simp only [pS]; refine gS 6 (v := .pointer (some ⟨q, 5, none⟩)) rfl ?_; simp only [pS]
      refine gC 7 (v := .slice m.FA n m.fc) rfl (fun w' h => by
        have hc := h.2.2
        go_simp) ?_
      simp only [pS]; refine gS 8 (v := .int .i64 (n : Int)) rfl ?_; simp only [pS]; refine gS 9 (v := .bool false) rfl ?_; simp only [pS]; refine hS 10 (v := .bool false) rfl rfl ?_; simp only [pS]; refine hS 11 (v := .bool false) rfl rfl ?_; simp only [pS]; refine wpAnyH_done (by kernel_rfl) ?_ _; clear hHeld hS0; generalize w4.drew = w5 at *
      obtain ⟨x, hx⟩ : ∃ x, V.L[p]? = some x := ⟨_, List.getElem?_eq_getElem (by have := HPN.out; have := HQ.out; omega)⟩; have HX : Sl _ := ⟨hx⟩; clear hx
      obtain ⟨g, hg, hc⟩ : ∃ g, m.FA = some ⟨g, 0, none⟩ ∧ V.L.length ≤ m.fc := by
        rcases own_some HS.out.fr with ⟨_, h0, _⟩ | ⟨g, h1, h2, _⟩
        · have := HPN.out; have := HQ.out; omega
        · exact ⟨g, h1, h2⟩
      have HG : Sl _ := ⟨And.intro hg hc⟩
      have HQD : Sl (∀ W, Below w5.heap.size w5 W → Lg w W [(g3, 3, #[.int .i64 (p : Int)]), (g2, 24, #[ptr q])] ∧ W.cell? ⟨q, 5, none⟩ = some (.slice (some ⟨g, 0, none⟩) n m.fc) ∧ W.rangeAt g (p * 2) [.slice x.A x.n x.c, .slice x.B x.m x.d]) := ⟨fun W hW => by
        have hs := HS.out.below hW; refine ⟨HD.out.below hW, by rw [← HQ.out.1, ← HQ.out.2.1, ← HG.out.1]; exact hs.cell 5 rfl, fun j v hj => ?_⟩; have ho := hs.fr; rw [HG.out.1] at ho; obtain ⟨cur, hB, hsz, hc2⟩ := own_blk ho; have hlt : p < V.L.length := (by have := HPN.out; have := HQ.out; omega); have hj2 : j < 2 := (List.getElem?_eq_some_iff.1 hj).1
        have hdr : ((V.L.flatMap RgV.cells).drop (p * 2))[j]? = some v := by
          rw [fm_drop RgV.cells 2 (fun _ => rfl), List.drop_eq_getElem_cons hlt, List.flatMap_cons, List.getElem?_append_left (by show j < 2; exact hj2)]; have e : V.L[p] = x := (by have := HX.out; rw [List.getElem?_eq_getElem hlt] at this; injection this); rw [e]; exact hj
        rw [List.getElem?_drop] at hdr; rw [hB.cell, hc2 _ (by omega)]
        exact hdr⟩
      clear hg hc; have hpn : (p : Int) < (n : Int) := (by have := HPN.out; omega); have hp0 : (0 : Int) ≤ (p : Int) := (by omega); have hb5 : Below w5.heap.size w5 w5.drew := below_drewN (Below.refl _ _) 1; have c1 : w5.drew.cell? ⟨q, 5, none⟩ = some (.slice (some ⟨g, 0, none⟩) n m.fc) := (HQD.out _ hb5).2.1; go_wp2_with fail; clear c1; have hm := hb5; refine wp_region_E (S := fun w' => Below w5.heap.size w5 w') 8 (by kernel_rfl) hm (fun hHeld => ?_); clear hm
      refine eC 0 (v := ptr q) rfl rfl (fun w' h => by
        have hc := ((HQD.out w' h).1.at_ 1 rfl).cell 0
        go_simp) ?_
      simp only [pS]; refine eS 1 (v := ptr q) rfl rfl ?_; simp only [pS]; refine eS 2 (v := .pointer (some ⟨q, 5, none⟩)) rfl rfl ?_; simp only [pS]
      refine eC 3 (v := .slice (some ⟨g, 0, none⟩) n m.fc) rfl rfl (fun w' h => by
        have hc := (HQD.out w' h).2.1
        go_simp) ?_
      simp only [pS]
      refine eC 4 (v := .int .i64 (p : Int)) rfl rfl (fun w' h => by
        have hc := ((HQD.out w' h).1.at_ 0 rfl).cell 0
        go_simp) ?_
      simp only [pS]; refine eS 5 (v := .pointer (some ⟨g, p * 2, none⟩)) rfl rfl ?_; simp only [pS]; refine eL 6 45 (.tmp 27) rfl rfl rfl g (p * 2) rfl #[.slice x.A x.n x.c, .slice x.B x.m x.d] _ (fun w' h => (HQD.out w' h).2.2) Tryz.underlying45 rfl ?_; simp only [pS]; refine eO 7 rfl rfl fun K hK => ?_; refine wp_alloc_newm 45 rfl #[.slice none 0 0, .slice none 0 0] alloc_reg ?_; rintro w6 g5 zg zb zs zB; have HD6 : Sl (Lg w w6 ((g5, 45, #[.slice none 0 0, .slice none 0 0]) :: [(g3, 3, #[.int .i64 (p : Int)]), (g2, 24, #[ptr q])])) := ⟨(HQD.out _ hb5).1.new zg (by rw [← zg]; exact Mv.below (by rw [zg] at *; exact zb)) zB⟩; refine hK.out _ _ (fun _ => hb5.trans (zb.mono hb5.size)) (fun hHeld => ?_); clear hK K
      (try simp only [pS])
      refine eO 8 rfl rfl fun K hK => ?_; refine wp_store_partm 45 (.tmp 5) (.tmp 28) rfl g5 0 #[.slice x.A x.n x.c, .slice x.B x.m x.d] rfl rfl 45 _ #[.slice x.A x.n x.c, .slice x.B x.m x.d] (HD6.out.at_ 0 rfl) (by simp) (putA_all _ _ rfl) (by kernel_rfl) (by simp [Value.oneCell']) ?_; rintro w8 zm zs8 zb8; have HD8 : Sl (Lg w w8 ((g5, 45, #[.slice x.A x.n x.c, .slice x.B x.m x.d]) :: [(g3, 3, #[.int .i64 (p : Int)]), (g2, 24, #[ptr q])])) := ⟨HD6.out.upd zm zb8⟩; clear zm zs8 zb8 HD6 zg zb zs zB hb5 HQD HD HS; refine hK.out _ _ (fun h => absurd rfl h) (fun hHeld => ?_); clear hK K
      (try simp only [pS])
      refine wpAnyE_done (by kernel_rfl) ?_ _; clear hHeld; have HSW : Sl (SQ w8 base o (m.wide w.heap.size w8.heap.size) V ∧ Foot m (m.wide w.heap.size w8.heap.size) w w8) := ⟨H.out.widen (MvP.of_below HD8.out.bl) (fun _ e => e.elim)⟩
      have HED : Sl (EdF w8 (m.wide w.heap.size w8.heap.size).imm m.q (.del p x) (.func (.func 66) #[] #[ptr g2, ptr g3, ptr g5]) (.func (.func 65) #[] #[ptr g2, ptr g3])) := ⟨by
        have x3 := HD8.out.at_ 2 rfl; have x4 := HD8.out.at_ 1 rfl; have x5 := HD8.out.at_ 0 rfl; have y5 := HD8.out.ld.ge _ List.mem_cons_self; have y4 := HD8.out.ld.ge _ (List.mem_cons_of_mem _ List.mem_cons_self); have y3 := HD8.out.ld.ge _ (List.mem_cons_of_mem _ (List.mem_cons_of_mem _ List.mem_cons_self))
        exact ⟨g2, g3, g5, .inr ⟨y3, x3.lt⟩, .inr ⟨y4, x4.lt⟩, .inr ⟨y5, x5.lt⟩, rfl, rfl, by rw [HQ.out.1]; exact x3, x4, x5, HSW.out.1.rg x (List.mem_of_getElem? HX.out)⟩⟩
      have c3 : w8.cell? ⟨g2, 0, none⟩ = some (ptr q) := (HD8.out.at_ 2 rfl).cell 0; have c4 : w8.cell? ⟨g3, 0, none⟩ = some (.int .i64 (p : Int)) := (HD8.out.at_ 1 rfl).cell 0; have c6 : w8.cell? ⟨q, 6, none⟩ = some (.int .i64 (V.p : Int)) := (by rw [← HQ.out.1]; exact HSW.out.1.cell 6 rfl); have hvp : (V.p : Int) ≤ 500 := (by have := HBD.out; unfold SqB at this; omega); have hok : (Ed.del p x).ok V.L := HX.out
      have HDO : Sl (∀ pos : Nat, Calls Tryz.prog 44 #[ptr q, .int .i64 (pos : Int), .func (.func 65) #[] #[ptr g2, ptr g3], .func (.func 66) #[] #[ptr g2, ptr g3, ptr g5]] w8 fun en w' => en = .returned (.tuple #[]) ∧ ∃ m', SQ w' base o m' (V.does (.del p x) pos) ∧ Foot (m.wide w.heap.size w8.heap.size) m' w8 w') := ⟨fun pos => by
        have h := does_any base o (m.wide w.heap.size w8.heap.size) V _ pos _ _ _ _ w8 HSW.out.1 HBD.out.1 HBD.out.2.1 HBD.out.2.2.1 hok HED.out; rw [show (m.wide w.heap.size w8.heap.size).q = q from HQ.out.1] at h
        exact h⟩
      clear hok HED; have hmf : ∀ (fn : Fn) (first cap : Array Value) (w : World), (Instr.makeFunc fn first cap).run Tryz.prog w = .ok (.func fn first cap) w := fun _ _ _ _ => rfl
      by_cases p4 : p < V.p
      · have p4d : decide ((p : Int) < (V.p : Int)) = true := decide_eq_true (by omega); have p4i : (p : Int) < (V.p : Int) := (by omega); obtain ⟨vp, hv⟩ : ∃ vp, V.p = vp + 1 := ⟨V.p - 1, by omega⟩; have HVP : Sl _ := ⟨hv⟩; rw [hv] at c6 p4d p4i hvp; have e1 : (((vp + 1 : Nat) : Int)) = (vp : Int) + 1 := (by omega); rw [e1] at c6 p4d p4i hvp; have hvp0 : (0 : Int) ≤ (vp : Int) := (by omega); clear e1 hv p4; go_wp2_with fail; refine (HDO.out vp).mono ?_; rintro en w9 ⟨rfl, m', h1, h2⟩; have HXX : Sl (DelP base o m V (p : Int) w (.returned (.int .i64 0)) w9) := ⟨⟨by rw [HV.out], m', fun hh => absurd HV.out hh, fun _ => ⟨x, by rw [Int.toNat_natCast]; exact HX.out, by rw [if_pos (by rw [HVP.out]; omega), Int.toNat_natCast, HVP.out]; exact h1⟩, HSW.out.2.trans h2⟩⟩; clear h1 h2 HDO c3 c4 c6; go_wp2_with fail; go_ret; exact HXX.out
      · have p4d : decide ((p : Int) < (V.p : Int)) = false := decide_eq_false (by omega); have p4i : ¬ (p : Int) < (V.p : Int) := (by omega); go_wp2_with fail; refine (HDO.out V.p).mono ?_; rintro en w9 ⟨rfl, m', h1, h2⟩; have HXX : Sl (DelP base o m V (p : Int) w (.returned (.int .i64 0)) w9) := ⟨⟨by rw [HV.out], m', fun hh => absurd HV.out hh, fun _ => ⟨x, by rw [Int.toNat_natCast]; exact HX.out, by rw [if_neg (by omega), Int.toNat_natCast]; exact h1⟩, HSW.out.2.trans h2⟩⟩; clear h1 h2 HDO c3 c4 c6; go_wp2_with fail; go_ret; exact HXX.out
def repE (o : SpO) (V : SqV RgV) (z : Int) (r : RgV) : Int := if z < 0 ∨ (V.L.length : Int) ≤ z then 7 else regE o r
def RepP (base : Nat) (o : SpO) (m : SqM) (V : SqV RgV) (z : Int) (r : RgV) (w : World) (en : Ending) (w' : World) : Prop :=
  en = .returned (.int .i64 (repE o V z r)) ∧ ∃ m', (repE o V z r ≠ 0 → SQ w' base o m' V) ∧ (repE o V z r = 0 → ∃ x r', V.L[z.toNat]? = some x ∧ (r'.l = r.l ∧ r'.k = r.k) ∧ SQ w' base o m' (V.does (.rep z.toNat r' x) V.p)) ∧ Foot m m' w w'
theorem RepP.no {base : Nat} {o : SpO} {m : SqM} {V : SqV RgV} {z c : Int} {r : RgV} {w w' : World} (hv : repE o V z r = c) (hc : c ≠ 0) (hs : SQ w' base o m V) (hb : Below w.heap.size w w') : RepP base o m V z r w (.returned (.int .i64 c)) w' :=
  ⟨by rw [hv], m, fun _ => hs, fun h => absurd (hv.symm.trans h) hc, Foot.of_below hb⟩
theorem qReplace_any (base : Nat) (o : SpO) (m : SqM) (V : SqV RgV) (z : Int) (r : RgV) (w : World) (h : SQ w base o m V) (hF : SpF o) (hr : RgM w r) (hB : SqB o V) :
    Calls Tryz.prog 31 #[ptr m.q, .int .i64 z, .agg #[.slice r.A r.n r.c, .slice r.B r.m r.d]] w fun en w' => RepP base o m V z r w en w' := by
  have H : Sl _ := ⟨h⟩; have HF : Sl _ := ⟨hF⟩; have HR : Sl _ := ⟨hr⟩; have HBD : Sl _ := ⟨hB⟩; have HD : Sl (Lg w w []) := ⟨Lg.nil w⟩; obtain ⟨q, hq⟩ : ∃ q, m.q = q := ⟨_, rfl⟩; obtain ⟨n, hn⟩ : ∃ n, V.L.length = n := ⟨_, rfl⟩; have HQ : Sl (m.q = q ∧ V.L.length = n ∧ n ≤ 500) := ⟨⟨hq, hn, by have := hB.2.2.1; omega⟩⟩; have HE : Sl (repE o V z r = if z < 0 ∨ (n : Int) ≤ z then 7 else regE o r) := ⟨by rw [← hn]; rfl⟩; have hn500 : (n : Int) ≤ 500 := (by have := HQ.out; omega); rw [hq]; clear h hF hr hB hq hn; go_enter Tryz.func31, Tryz.ntmps31
  go_upto_region 1 with ((with_reducible show wpList _ _ _ _ _ _); first
    | (refine wpList_box_one 3 rfl rfl 24 (.tmp 0) rfl (ptr q) rfl (fun _ => by kernel_rfl) ?_; rintro w1 g3 zg zm zs zb; replace HD : Sl _ := ⟨HD.out.new zg zm zb⟩; clear zg zm zs zb)
    | (refine wpList_box_one 4 rfl rfl 3 (.tmp 1) rfl (.int .i64 z) rfl (fun _ => by kernel_rfl) ?_; rintro w2 g4 zg zm zs zb; replace HD : Sl _ := ⟨HD.out.new zg zm zb⟩; clear zg zm zs zb)
    | (refine wpList_box_new 5 rfl rfl 45 (.tmp 2) rfl #[.slice r.A r.n r.c, .slice r.B r.m r.d] rfl (fun _ => by kernel_rfl) ?_; rintro w3 g5 zg zm zs zb; replace HD : Sl _ := ⟨HD.out.new zg zm zb⟩; clear zg zm zs zb))
  have HS : Sl (SQ w3 base o m V) := ⟨H.out.below HD.out.bl⟩; have c3 : w3.cell? ⟨g3, 0, none⟩ = some (ptr q) := (HD.out.at_ 2 rfl).cell 0; have HC0 : Sl _ := ⟨isq_any q w3 (by rw [← HQ.out.1]; exact HS.out.cell 0 rfl)⟩; go_wp2_with fail; refine HC0.out.mono ?_; rintro en w4 ⟨rfl, rfl⟩; clear HC0; have c4 : w4.cell? ⟨g4, 0, none⟩ = some (.int .i64 z) := (HD.out.at_ 1 rfl).cell 0; have c5 : w4.cell? ⟨q, 5, none⟩ = some (.slice m.FA n m.fc) := (by rw [← HQ.out.1, ← HQ.out.2.1]; exact HS.out.cell 5 rfl); have hS0 : w4.drew.cell? ⟨g3, 0, none⟩ = some (ptr q) ∧ w4.drew.cell? ⟨g4, 0, none⟩ = some (.int .i64 z) ∧ w4.drew.cell? ⟨q, 5, none⟩ = some (.slice m.FA n m.fc) := ⟨c3, c4, c5⟩; have hb4 : Below w4.heap.size w4 w4.drew := below_drewN (Below.refl _ _) 1; go_wp2_with fail; clear c3 c4 c5; replace HD : Sl (Lg w w4.drew [(g5, 45, #[.slice r.A r.n r.c, .slice r.B r.m r.d]), (g4, 3, #[.int .i64 z]), (g3, 24, #[ptr q])]) := ⟨HD.out.below hb4⟩; replace HS : Sl (SQ w4.drew base o m V) := ⟨HS.out.below hb4⟩; clear hb4
  by_cases p1 : z < 0
  · have p1d : decide (z < 0) = true := decide_eq_true p1; have HV : Sl (repE o V z r = 7) := ⟨by rw [HE.out]; exact if_pos (.inl p1)⟩; have hm := hS0; refine wp_region_held_drew (S := fun w' => w'.cell? ⟨g3, 0, none⟩ = some (ptr q) ∧ w'.cell? ⟨g4, 0, none⟩ = some (.int .i64 z) ∧ w'.cell? ⟨q, 5, none⟩ = some (.slice m.FA n m.fc)) (by kernel_rfl) hm (fun hHeld => ?_); clear hm
    refine hC 0 (v := .int .i64 z) rfl rfl (fun w' h => by
      have hc := h.2.1
      go_simp) ?_
    simp only [pS]; refine hS 1 (v := .bool true) rfl rfl ?_; simp only [pS]; refine hM 2 (v := .bool true) rfl rfl ?_; simp only [pS]; refine gN 3 rfl ?_; simp only [pS]; refine gN 4 rfl ?_; simp only [pS]; refine gN 5 rfl ?_; simp only [pS]; refine gN 6 rfl ?_; simp only [pS]; refine gN 7 rfl ?_; simp only [pS]; refine gN 8 rfl ?_; simp only [pS]; refine gN 9 rfl ?_; simp only [pS]; refine hS 10 (v := .bool true) rfl rfl ?_; simp only [pS]; refine hS 11 (v := .bool true) rfl rfl ?_; simp only [pS]; refine wpAnyH_done (by kernel_rfl) ?_ _; clear hHeld hS0; go_wp2_with fail; go_ret; exact RepP.no HV.out (by decide) HS.out HD.out.bl
  · have p1d : decide (z < 0) = false := decide_eq_false p1; obtain ⟨p, rfl⟩ := Int.eq_ofNat_of_zero_le (show 0 ≤ z by omega)
    by_cases p2 : n ≤ p
    · have p2d : decide ((n : Int) ≤ (p : Int)) = true := decide_eq_true (by omega); have HV : Sl (repE o V (p : Int) r = 7) := ⟨by rw [HE.out]; exact if_pos (.inr (by omega))⟩; have hm := hS0; refine wp_region_held_drew (S := fun w' => w'.cell? ⟨g3, 0, none⟩ = some (ptr q) ∧ w'.cell? ⟨g4, 0, none⟩ = some (.int .i64 (p : Int)) ∧ w'.cell? ⟨q, 5, none⟩ = some (.slice m.FA n m.fc)) (by kernel_rfl) hm (fun hHeld => ?_); clear hm
      refine hC 0 (v := .int .i64 (p : Int)) rfl rfl (fun w' h => by
        have hc := h.2.1
        go_simp) ?_
      simp only [pS]; refine hS 1 (v := .bool false) rfl rfl ?_; simp only [pS]; refine hM 2 (v := .bool false) rfl rfl ?_; simp only [pS]
      refine gC 3 (v := .int .i64 (p : Int)) rfl (fun w' h => by
        have hc := h.2.1
        go_simp) ?_
      simp only [pS]
      refine gC 4 (v := ptr q) rfl (fun w' h => by
        have hc := h.1
        go_simp) ?_
      simp only [pS]; refine gS 5 (v := ptr q) rfl ?_; simp only [pS]; refine gS 6 (v := .pointer (some ⟨q, 5, none⟩)) rfl ?_; simp only [pS]
      refine gC 7 (v := .slice m.FA n m.fc) rfl (fun w' h => by
        have hc := h.2.2
        go_simp) ?_
      simp only [pS]; refine gS 8 (v := .int .i64 (n : Int)) rfl ?_; simp only [pS]; refine gS 9 (v := .bool true) rfl ?_; simp only [pS]; refine hS 10 (v := .bool true) rfl rfl ?_; simp only [pS]; refine hS 11 (v := .bool true) rfl rfl ?_; simp only [pS]; refine wpAnyH_done (by kernel_rfl) ?_ _; clear hHeld hS0; go_wp2_with fail; go_ret; exact RepP.no HV.out (by decide) HS.out HD.out.bl
    · have p2d : decide ((n : Int) ≤ (p : Int)) = false := decide_eq_false (by omega); have HPN : Sl (p < n) := ⟨by omega⟩; rw [if_neg (by omega)] at HE; have hm := hS0; refine wp_region_held_drew (S := fun w' => w'.cell? ⟨g3, 0, none⟩ = some (ptr q) ∧ w'.cell? ⟨g4, 0, none⟩ = some (.int .i64 (p : Int)) ∧ w'.cell? ⟨q, 5, none⟩ = some (.slice m.FA n m.fc)) (by kernel_rfl) hm (fun hHeld => ?_); clear hm
      refine hC 0 (v := .int .i64 (p : Int)) rfl rfl (fun w' h => by
        have hc := h.2.1
        go_simp) ?_
      simp only [pS]; refine hS 1 (v := .bool false) rfl rfl ?_; simp only [pS]; refine hM 2 (v := .bool false) rfl rfl ?_; simp only [pS]
      refine gC 3 (v := .int .i64 (p : Int)) rfl (fun w' h => by
        have hc := h.2.1
        go_simp) ?_
      simp only [pS]
      refine gC 4 (v := ptr q) rfl (fun w' h => by
        have hc := h.1
        go_simp) ?_
      simp only [pS]; refine gS 5 (v := ptr q) rfl ?_; simp only [pS]; refine gS 6 (v := .pointer (some ⟨q, 5, none⟩)) rfl ?_; simp only [pS]
      refine gC 7 (v := .slice m.FA n m.fc) rfl (fun w' h => by
        have hc := h.2.2
        go_simp) ?_
      simp only [pS]; refine gS 8 (v := .int .i64 (n : Int)) rfl ?_; simp only [pS]; refine gS 9 (v := .bool false) rfl ?_; simp only [pS]; refine hS 10 (v := .bool false) rfl rfl ?_; simp only [pS]; refine hS 11 (v := .bool false) rfl rfl ?_; simp only [pS]; refine wpAnyH_done (by kernel_rfl) ?_ _; clear hHeld hS0; generalize w4.drew = w5 at *
      go_wp2_with fail; have hb5 : Below w5.heap.size w5 w5.drew := below_drewN (Below.refl _ _) 1; have HQD : Sl (∀ W, Below w5.heap.size w5 W → Lg w W [(g5, 45, #[.slice r.A r.n r.c, .slice r.B r.m r.d]), (g4, 3, #[.int .i64 (p : Int)]), (g3, 24, #[ptr q])] ∧ SQ W base o m V) := ⟨fun W hW => ⟨HD.out.below hW, HS.out.below hW⟩⟩; have HRG : Sl (Calls Tryz.prog 42 #[.agg #[.slice o.A1 o.n1 o.c1, .slice o.A2 o.n2 o.c2, .slice o.A3 o.n3 o.c3, .slice o.A4 o.n4 o.c4], .agg #[.slice r.A r.n r.c, .slice r.B r.m r.d]] w5.drew fun e w' => e = .returned (.int .i64 (regE o r)) ∧ Below w5.drew.heap.size w5.drew w') := ⟨registration_any o r _ (HR.out.below (HQD.out _ hb5).1.bl) HF.out⟩; obtain ⟨E, hE⟩ : ∃ E, regE o r = E := ⟨_, rfl⟩; have HEE : Sl _ := ⟨hE⟩; rw [hE] at HRG HE; clear hE; have hm := hb5; refine wp_region_held_drew (S := fun w' => Below w5.heap.size w5 w') (by kernel_rfl) hm (fun hHeld => ?_); clear hm
      refine hC 0 (v := ptr q) rfl rfl (fun w' h => by
        have hc := ((HQD.out w' h).1.at_ 2 rfl).cell 0
        go_simp) ?_
      simp only [pS]; refine hS 1 (v := ptr q) rfl rfl ?_; simp only [pS]; refine hS 2 (v := .pointer (some ⟨q, 1, none⟩)) rfl rfl ?_; simp only [pS]; refine hL 3 33 (.tmp 26) rfl rfl rfl q 1 rfl #[.slice o.A1 o.n1 o.c1, .slice o.A2 o.n2 o.c2, .slice o.A3 o.n3 o.c3, .slice o.A4 o.n4 o.c4] _ (fun w' h => by have hb := (HQD.out w' h).2.blk; rw [HQ.out.1] at hb; have := World.rangeAt_of_block hb 1 4; exact this) Tryz.underlying33 rfl ?_; simp only [pS]; refine hL 4 45 (.tmp 5) rfl rfl rfl g5 0 rfl #[.slice r.A r.n r.c, .slice r.B r.m r.d] _ (fun w' h => by have := World.rangeAt_of_block ((HQD.out w' h).1.at_ 0 rfl) 0 2; exact this) Tryz.underlying45 rfl ?_; simp only [pS]; refine hO 5 rfl rfl fun K hK => ?_; go_simp; go_at_call 42
      (with_reducible refine (HRG.out).mono ?_)
      rintro e w6 ⟨rfl, hb⟩; have hb6 : Below w5.heap.size w5 w6 := hb5.trans (hb.mono hb5.size); clear hb; refine hK.out _ _ hb6 (fun hHeld => ?_); clear hK K
      (try simp only [pS])
      refine hS 6 (v := .int .i64 E) rfl rfl ?_; simp only [pS]; refine wpAnyH_done (by kernel_rfl) ?_ _; clear hHeld hb5; obtain ⟨h1, h2⟩ := HQD.out w6 hb6; replace HD : Sl _ := ⟨h1⟩; replace HS : Sl _ := ⟨h2⟩; clear h1 h2 hb6 HQD HRG
      by_cases e0 : E = 0
      · subst e0; have HV : Sl (repE o V (p : Int) r = 0) := ⟨HE.out⟩
        have HRL : Sl (r.n ≤ 1000000 ∧ r.m ≤ 1000000) := ⟨by
          obtain ⟨r1, r2⟩ := regE_ok HEE.out; have l1 := drwE_len r1; have l2 := drwE_len r2; have hs1 := HR.out.s.1; have hs2 := HR.out.c.1; have hbd := HBD.out.2.2.2.2
          omega⟩
        have d0 : w6.cell? ⟨g5, 0, none⟩ = some (.slice r.A r.n r.c) := (HD.out.at_ 0 rfl).cell 0; have d1 : w6.cell? ⟨g5, 1, none⟩ = some (.slice r.B r.m r.d) := (HD.out.at_ 0 rfl).cell 1; go_wp2_with fail; refine (copied_any r _ (HR.out.below HD.out.bl) HRL.out.1 HRL.out.2).mono ?_; rintro e w7 ⟨⟨A0, c0, B0, d0', rfl, ho⟩, hb⟩; have HRO : Sl (RgO w7 w6.heap.size ⟨A0, r.n, c0, r.l, B0, r.m, d0', r.k⟩) := ⟨ho⟩; have HW6 : Sl (w.heap.size ≤ w6.heap.size) := ⟨HD.out.bl.size⟩; replace HD : Sl _ := ⟨HD.out.below hb⟩; clear ho hb d0 d1 HS
        go_upto_region 9 with ((with_reducible show wpList _ _ _ _ _ _); (refine wpList_store_whole rfl 45 (.tmp 5) (.tmp 34) rfl g5 #[.slice A0 r.n c0, .slice B0 r.m d0'] rfl rfl 45 _ (HD.out.at_ 0 rfl) rfl (by kernel_rfl) (by simp [Value.oneCell']) ?_; rintro w8 zm zs zb; replace HRO : Sl _ := ⟨HRO.out.mv (HD.out.at_ 0 rfl) (by decide) zm⟩; replace HD : Sl _ := ⟨HD.out.upd zm zb⟩; clear zm zs zb))
        have HS : Sl (SQ w8 base o m V) := ⟨H.out.below HD.out.bl⟩; obtain ⟨x, hx⟩ : ∃ x, V.L[p]? = some x := ⟨_, List.getElem?_eq_getElem (by have := HPN.out; have := HQ.out; omega)⟩; have HX : Sl _ := ⟨hx⟩; clear hx
        obtain ⟨g, hg, hc⟩ : ∃ g, m.FA = some ⟨g, 0, none⟩ ∧ V.L.length ≤ m.fc := by
          rcases own_some HS.out.fr with ⟨_, h0, _⟩ | ⟨g, h1, h2, _⟩
          · have := HPN.out; have := HQ.out; omega
          · exact ⟨g, h1, h2⟩
        have HG : Sl _ := ⟨And.intro hg hc⟩
        have HQD : Sl (∀ W, Below w8.heap.size w8 W → Lg w W [(g5, 45, #[.slice A0 r.n c0, .slice B0 r.m d0']), (g4, 3, #[.int .i64 (p : Int)]), (g3, 24, #[ptr q])] ∧ W.cell? ⟨q, 5, none⟩ = some (.slice (some ⟨g, 0, none⟩) n m.fc) ∧ W.rangeAt g (p * 2) [.slice x.A x.n x.c, .slice x.B x.m x.d]) := ⟨fun W hW => by
          have hs := HS.out.below hW; refine ⟨HD.out.below hW, by rw [← HQ.out.1, ← HQ.out.2.1, ← HG.out.1]; exact hs.cell 5 rfl, fun j v hj => ?_⟩; have ho := hs.fr; rw [HG.out.1] at ho; obtain ⟨cur, hB, hsz, hc2⟩ := own_blk ho; have hlt : p < V.L.length := (by have := HPN.out; have := HQ.out; omega); have hj2 : j < 2 := (List.getElem?_eq_some_iff.1 hj).1
          have hdr : ((V.L.flatMap RgV.cells).drop (p * 2))[j]? = some v := by
            rw [fm_drop RgV.cells 2 (fun _ => rfl), List.drop_eq_getElem_cons hlt, List.flatMap_cons, List.getElem?_append_left (by show j < 2; exact hj2)]; have e : V.L[p] = x := (by have := HX.out; rw [List.getElem?_eq_getElem hlt] at this; injection this); rw [e]; exact hj
          rw [List.getElem?_drop] at hdr; rw [hB.cell, hc2 _ (by omega)]
          exact hdr⟩
        clear hg hc; have hpn : (p : Int) < (n : Int) := (by have := HPN.out; omega); have hp0 : (0 : Int) ≤ (p : Int) := (by omega); have hb5 : Below w8.heap.size w8 w8.drew := below_drewN (Below.refl _ _) 1; go_wp2_with fail; have hm := hb5; refine wp_region_E (S := fun w' => Below w8.heap.size w8 w') 8 (by kernel_rfl) hm (fun hHeld => ?_); clear hm
        refine eC 0 (v := ptr q) rfl rfl (fun w' h => by
          have hc := ((HQD.out w' h).1.at_ 2 rfl).cell 0
          go_simp) ?_
        simp only [pS]; refine eS 1 (v := ptr q) rfl rfl ?_; simp only [pS]; refine eS 2 (v := .pointer (some ⟨q, 5, none⟩)) rfl rfl ?_; simp only [pS]
        refine eC 3 (v := .slice (some ⟨g, 0, none⟩) n m.fc) rfl rfl (fun w' h => by
          have hc := (HQD.out w' h).2.1
          go_simp) ?_
        simp only [pS]
        refine eC 4 (v := .int .i64 (p : Int)) rfl rfl (fun w' h => by
          have hc := ((HQD.out w' h).1.at_ 1 rfl).cell 0
          go_simp) ?_
        simp only [pS]; refine eS 5 (v := .pointer (some ⟨g, p * 2, none⟩)) rfl rfl ?_; simp only [pS]; refine eL 6 45 (.tmp 40) rfl rfl rfl g (p * 2) rfl #[.slice x.A x.n x.c, .slice x.B x.m x.d] _ (fun w' h => (HQD.out w' h).2.2) Tryz.underlying45 rfl ?_; simp only [pS]; refine eO 7 rfl rfl fun K hK => ?_; refine wp_alloc_newm 45 rfl #[.slice none 0 0, .slice none 0 0] alloc_reg ?_; rintro w9 g8 zg zb zs zB; have HD9 : Sl (Lg w w9 ((g8, 45, #[.slice none 0 0, .slice none 0 0]) :: [(g5, 45, #[.slice A0 r.n c0, .slice B0 r.m d0']), (g4, 3, #[.int .i64 (p : Int)]), (g3, 24, #[ptr q])])) := ⟨(HQD.out _ hb5).1.new zg (by rw [← zg]; exact Mv.below (by rw [zg] at *; exact zb)) zB⟩; have HB9 : Sl (Below w8.heap.size w8 w9) := ⟨hb5.trans (zb.mono hb5.size)⟩; refine hK.out _ _ (fun _ => HB9.out) (fun hHeld => ?_); clear hK K
        (try simp only [pS])
        refine eO 8 rfl rfl fun K hK => ?_; refine wp_store_partm 45 (.tmp 8) (.tmp 41) rfl g8 0 #[.slice x.A x.n x.c, .slice x.B x.m x.d] rfl rfl 45 _ #[.slice x.A x.n x.c, .slice x.B x.m x.d] (HD9.out.at_ 0 rfl) (by simp) (putA_all _ _ rfl) (by kernel_rfl) (by simp [Value.oneCell']) ?_; rintro wA zm zs8 zb8; have HDA : Sl (Lg w wA ((g8, 45, #[.slice x.A x.n x.c, .slice x.B x.m x.d]) :: [(g5, 45, #[.slice A0 r.n c0, .slice B0 r.m d0']), (g4, 3, #[.int .i64 (p : Int)]), (g3, 24, #[ptr q])])) := ⟨HD9.out.upd zm zb8⟩; have HRA : Sl (RgO wA w6.heap.size ⟨A0, r.n, c0, r.l, B0, r.m, d0', r.k⟩) := ⟨(HRO.out.below HB9.out).mv (HD9.out.at_ 0 rfl) (by decide) zm⟩; clear zm zs8 zb8 HD9 zg zb zs zB hb5 HQD HD HS HRO HB9; refine hK.out _ _ (fun h => absurd rfl h) (fun hHeld => ?_); clear hK K
        (try simp only [pS])
        refine wpAnyE_done (by kernel_rfl) ?_ _; clear hHeld; go_wp2_with fail; have hbA : Below wA.heap.size wA wA.drew := below_drewN (Below.refl _ _) 1; have HDB : Sl (Lg w wA.drew ((g8, 45, #[.slice x.A x.n x.c, .slice x.B x.m x.d]) :: [(g5, 45, #[.slice A0 r.n c0, .slice B0 r.m d0']), (g4, 3, #[.int .i64 (p : Int)]), (g3, 24, #[ptr q])])) := ⟨HDA.out.below hbA⟩; have HRB : Sl (RgO wA.drew w6.heap.size ⟨A0, r.n, c0, r.l, B0, r.m, d0', r.k⟩) := ⟨HRA.out.below hbA⟩; clear hbA HDA HRA; have HSW : Sl (SQ wA.drew base o (m.wide w.heap.size wA.drew.heap.size) V ∧ Foot m (m.wide w.heap.size wA.drew.heap.size) w wA.drew) := ⟨H.out.widen (MvP.of_below HDB.out.bl) (fun _ e => e.elim)⟩; have hS0 : wA.drew.cell? ⟨g3, 0, none⟩ = some (ptr q) ∧ wA.drew.cell? ⟨q, 6, none⟩ = some (.int .i64 (V.p : Int)) := ⟨(HDB.out.at_ 3 rfl).cell 0, by rw [← HQ.out.1]; exact HSW.out.1.cell 6 rfl⟩
        have HDO : Sl (Calls Tryz.prog 44 #[ptr q, .int .i64 (V.p : Int), .func (.func 80) #[] #[ptr g5, ptr g3, ptr g4], .func (.func 81) #[] #[ptr g8, ptr g3, ptr g4]] wA.drew fun en w' => en = .returned (.tuple #[]) ∧ ∃ m', SQ w' base o m' (V.does (.rep p ⟨A0, r.n, c0, r.l, B0, r.m, d0', r.k⟩ x) V.p) ∧ Foot (m.wide w.heap.size wA.drew.heap.size) m' wA.drew w') := ⟨by
          have x3 := HDB.out.at_ 3 rfl; have x4 := HDB.out.at_ 2 rfl; have x5 := HDB.out.at_ 1 rfl; have x8 := HDB.out.at_ 0 rfl; have y8 := HDB.out.ld.ge _ List.mem_cons_self; have y5 := HDB.out.ld.ge _ (List.mem_cons_of_mem _ List.mem_cons_self); have y4 := HDB.out.ld.ge _ (List.mem_cons_of_mem _ (List.mem_cons_of_mem _ List.mem_cons_self)); have y3 := HDB.out.ld.ge _ (List.mem_cons_of_mem _ (List.mem_cons_of_mem _ (List.mem_cons_of_mem _ List.mem_cons_self)))
          have hed : EdF wA.drew (m.wide w.heap.size wA.drew.heap.size).imm m.q (.rep p ⟨A0, r.n, c0, r.l, B0, r.m, d0', r.k⟩ x) (.func (.func 81) #[] #[ptr g8, ptr g3, ptr g4]) (.func (.func 80) #[] #[ptr g5, ptr g3, ptr g4]) :=
            ⟨g3, g4, g5, g8, .inr ⟨y3, x3.lt⟩, .inr ⟨y4, x4.lt⟩, .inr ⟨y5, x5.lt⟩, .inr ⟨y8, x8.lt⟩, rfl, rfl, by rw [HQ.out.1]; exact x3, x4, x5, x8, Dep.reg HRB.out (fun i h1 h2 => .inr ⟨Nat.le_trans HW6.out h1, h2⟩), HSW.out.1.rg x (List.mem_of_getElem? HX.out)⟩
          have h := does_any base o (m.wide w.heap.size wA.drew.heap.size) V _ V.p _ _ _ _ wA.drew HSW.out.1 HBD.out.1 HBD.out.2.1 HBD.out.2.2.1 (show (Ed.rep p ⟨A0, r.n, c0, r.l, B0, r.m, d0', r.k⟩ x).ok V.L from HX.out) hed; rw [show (m.wide w.heap.size wA.drew.heap.size).q = q from HQ.out.1] at h
          exact h⟩
        have hmf : ∀ (fn : Fn) (first cap : Array Value) (w : World), (Instr.makeFunc fn first cap).run Tryz.prog w = .ok (.func fn first cap) w := fun _ _ _ _ => rfl
        have hm := hS0; refine wp_region_E (S := fun w' => w'.cell? ⟨g3, 0, none⟩ = some (ptr q) ∧ w'.cell? ⟨q, 6, none⟩ = some (.int .i64 (V.p : Int))) 7 (by kernel_rfl) hm (fun hHeld => ?_); clear hm
        refine eC 0 (v := ptr q) rfl rfl (fun w' h => by
          have hc := h.1
          go_simp) ?_
        simp only [pS]; refine eS 5 (v := .func (.func 80) #[] #[ptr g5, ptr g3, ptr g4]) rfl rfl ?_; simp only [pS]; refine eS 6 (v := .func (.func 81) #[] #[ptr g8, ptr g3, ptr g4]) rfl rfl ?_; simp only [pS]; have cc := hS0.1; refine eO 1 rfl rfl fun K hK => ?_; go_simp; refine hK.out _ _ (fun _ => hS0) (fun hHeld => ?_); clear hK K cc
        (try simp only [pS])
        refine eO 2 rfl rfl fun K hK => ?_; go_simp; refine hK.out _ _ (fun _ => hS0) (fun hHeld => ?_); clear hK K
        (try simp only [pS])
        refine eS 3 (v := .pointer (some ⟨q, 6, none⟩)) rfl rfl ?_; simp only [pS]
        refine eC 4 (v := .int .i64 (V.p : Int)) rfl rfl (fun w' h => by
          have hc := h.2
          go_simp) ?_
        simp only [pS]; refine eO 7 rfl rfl fun K hK => ?_; go_simp; go_at_call 44
        (with_reducible refine (HDO.out).mono ?_)
        rintro en wC ⟨rfl, m', h1, h2⟩; have HXX : Sl (RepP base o m V (p : Int) r w (.returned (.int .i64 0)) wC) := ⟨⟨by rw [HV.out], m', fun hh => absurd HV.out hh, fun _ => ⟨x, ⟨A0, r.n, c0, r.l, B0, r.m, d0', r.k⟩, by rw [Int.toNat_natCast]; exact HX.out, ⟨rfl, rfl⟩, by rw [Int.toNat_natCast]; exact h1⟩, HSW.out.2.trans h2⟩⟩; clear h1 h2; refine hK.out _ _ (fun h => absurd rfl h) (fun hHeld => ?_); clear hK K
        (try simp only [pS])
        refine wpAnyE_done (by kernel_rfl) ?_ _; clear hHeld; go_wp2_with fail; go_ret; exact HXX.out
      · have e1 : (E != 0) = true := (by simp [e0]); have HV : Sl (repE o V (p : Int) r = E) := ⟨HE.out⟩; have HE0 : Sl _ := ⟨e0⟩; clear e0; go_wp2_with fail; go_ret; exact RepP.no HV.out HE0.out HS.out HD.out.bl
theorem qGo_no (base : Nat) (o : SpO) (m : SqM) (V : SqV RgV) (z : Int) (w : World) (h : SQ w base o m V) (hn : V.L.length ≤ 500) (hz : z < 0 ∨ (V.L.length : Int) < z) :
    Calls Tryz.prog 77 #[ptr m.q, .int .i64 z] w fun en w' => en = .returned (.int .i64 7) ∧ w' = w := by
  obtain ⟨q, hq⟩ : ∃ q, m.q = q := ⟨_, rfl⟩; obtain ⟨n, hnn⟩ : ∃ n, V.L.length = n := ⟨_, rfl⟩; have c0 : w.cell? ⟨q, 0, none⟩ = some (.bool true) := (by rw [← hq]; exact h.cell 0 rfl); have c5 : w.cell? ⟨q, 5, none⟩ = some (.slice m.FA n m.fc) := (by rw [← hq, ← hnn]; exact h.cell 5 rfl); rw [hq]; rw [hnn] at hz hn; have hn500 : (n : Int) ≤ 500 := (by omega); clear h hq hnn hn; have HC0 : Sl _ := ⟨isq_any q w c0⟩; go_enter Tryz.func77, Tryz.ntmps77; go_wp2_with fail; refine HC0.out.mono ?_; rintro en w1 ⟨rfl, rfl⟩
  by_cases p1 : z < 0
  · have p1d : decide (z < 0) = true := decide_eq_true p1; go_wp2_with fail; go_ret; exact ⟨rfl, rfl⟩
  · have p1d : decide (z < 0) = false := decide_eq_false p1; have p2 : (n : Int) < z := (by omega); have p2d : decide ((n : Int) < z) = true := decide_eq_true p2; clear hz; go_wp2_with fail; go_ret; exact ⟨rfl, rfl⟩
theorem qGo_any (base : Nat) (o : SpO) (m : SqM) (V : SqV RgV) (p : Nat) (w : World) (h : SQ w base o m V) (hn : V.L.length ≤ 500) (hp : p ≤ V.L.length) :
    Calls Tryz.prog 77 #[ptr m.q, .int .i64 (p : Int)] w fun en w' => en = .returned (.int .i64 0) ∧ SQ w' base o m { V with p := p } ∧ Foot m m w w' := by
  have H : Sl _ := ⟨h⟩; obtain ⟨q, hq⟩ : ∃ q, m.q = q := ⟨_, rfl⟩; obtain ⟨n, hnn⟩ : ∃ n, V.L.length = n := ⟨_, rfl⟩; have HQ : Sl (m.q = q) := ⟨hq⟩; have c0 : w.cell? ⟨q, 0, none⟩ = some (.bool true) := (by rw [← hq]; exact h.cell 0 rfl); have c5 : w.cell? ⟨q, 5, none⟩ = some (.slice m.FA n m.fc) := (by rw [← hq, ← hnn]; exact h.cell 5 rfl); have HB : Sl (Blk w q 96 (sqC o m V)) := ⟨by rw [← hq]; exact h.blk⟩; rw [hq]; rw [hnn] at hp hn; have hn500 : (n : Int) ≤ 500 := (by omega); have p1d : decide ((p : Int) < 0) = false := decide_eq_false (by omega); have p1 : ¬ (p : Int) < 0 := (by omega); have p2d : decide ((n : Int) < (p : Int)) = false := decide_eq_false (by omega); have p2 : ¬ (n : Int) < (p : Int) := (by omega); clear h hq hnn hn hp; have HC0 : Sl _ := ⟨isq_any q w c0⟩; go_enter Tryz.func77, Tryz.ntmps77; go_wp2_with fail; refine HC0.out.mono ?_; rintro en w1 ⟨rfl, rfl⟩; go_wp2_with ((with_reducible show wpList _ _ _ _ _ _); (refine wpList_store_cell rfl 3 (.tmp 23) (.tmp 21) rfl q 6 (.int .i64 (p : Int)) rfl rfl 96 _ _ HB.out (by simp [sqC]) rfl (by kernel_rfl) rfl rfl ?_; rintro w6 zm zs zb zw; have HZ : Sl _ := ⟨And.intro zm zb⟩; clear zm zs zb zw)); go_ret; have h := H.out.pd (w' := w6) (p := p) (d := V.d) (by rw [HQ.out]; exact HZ.out.2) ((MvP.of_mv HZ.out.1).mono fun i e => e.trans HQ.out.symm); exact ⟨rfl, h.1, h.2⟩
theorem qRedo_no (base : Nat) (o : SpO) (m : SqM) (V : SqV RgV) (w : World) (h : SQ w base o m V) (h0 : V.d = V.E.length) :
    Calls Tryz.prog 32 #[ptr m.q] w fun en w' => en = .returned (.int .i64 4) ∧ Below w.heap.size w w' := by
  obtain ⟨q, hq⟩ : ∃ q, m.q = q := ⟨_, rfl⟩; obtain ⟨n, hen⟩ : ∃ n, V.E.length = n := ⟨_, rfl⟩; have c0 : w.cell? ⟨q, 0, none⟩ = some (.bool true) := (by rw [← hq]; exact h.cell 0 rfl); have c8 : w.cell? ⟨q, 8, none⟩ = some (.int .i64 (n : Int)) := (by have h8 : w.cell? ⟨m.q, 8, none⟩ = some (.int .i64 (V.d : Int)) := h.cell 8 rfl; rw [h0, hen, hq] at h8; exact h8); have c7 : w.cell? ⟨q, 7, none⟩ = some (.slice m.EA n m.ec) := (by rw [← hq, ← hen]; exact h.cell 7 rfl); rw [hq]; clear h h0 hq hen; have HC0 : Sl _ := ⟨isq_any q w c0⟩; go_enter Tryz.func32, Tryz.ntmps32; go_wp2_with fail; refine HC0.out.mono ?_; rintro en w1 ⟨rfl, rfl⟩; clear HC0 c0; have HB : Sl (Below w1.heap.size w1 w1.drew) := ⟨below_drewN (Below.refl _ _) 1⟩; have hS0 : w1.drew.cell? ⟨q, 7, none⟩ = some (.slice m.EA n m.ec) ∧ w1.drew.cell? ⟨q, 8, none⟩ = some (.int .i64 (n : Int)) := ⟨c7, c8⟩; go_wp2_with fail; clear c7 c8; have hm := hS0; refine wp_region_held_drew (S := fun w' => w'.cell? ⟨q, 7, none⟩ = some (.slice m.EA n m.ec) ∧ w'.cell? ⟨q, 8, none⟩ = some (.int .i64 (n : Int))) (by kernel_rfl) hm (fun hHeld => ?_); clear hm; refine hM 0 (v := ptr q) rfl rfl ?_; simp only [pS]; refine hS 1 (v := ptr q) rfl rfl ?_; simp only [pS]; refine hS 2 (v := .pointer (some ⟨q, 8, none⟩)) rfl rfl ?_; simp only [pS]
  refine hC 3 (v := .int .i64 (n : Int)) rfl rfl (fun w' h => by
    have hc := h.2
    go_simp) ?_
  simp only [pS]; refine hM 4 (v := ptr q) rfl rfl ?_; simp only [pS]; refine hS 5 (v := ptr q) rfl rfl ?_; simp only [pS]; refine hS 6 (v := .pointer (some ⟨q, 7, none⟩)) rfl rfl ?_; simp only [pS]
  refine hC 7 (v := .slice m.EA n m.ec) rfl rfl (fun w' h => by
    have hc := h.1
    go_simp) ?_
  simp only [pS]; refine hS 8 (v := .int .i64 (n : Int)) rfl rfl ?_; simp only [pS]; refine hS 9 (v := .bool true) rfl rfl ?_; simp only [pS]; refine hS 10 (v := .bool true) rfl rfl ?_; simp only [pS]; refine wpAnyH_done (by kernel_rfl) ?_ _; clear hHeld hS0; go_wp2_with fail; go_ret; exact ⟨rfl, HB.out⟩
theorem Foot.above {m m' : SqM} {w w1 w2 : World} {p : Nat → Prop} (h : Foot m m' w w1) (hm : MvP p w1 w2) (hp : ∀ i, p i → w.heap.size ≤ i) : Foot m m' w w2 := ⟨h.mv.trans2 hm (fun i hi e => by have := hp i e; omega), h.held, h.own, h.q⟩
theorem SQ.frame_at {w : World} {base : Nat} {o : SpO} {m : SqM} {V : SqV RgV} {k : Nat} {x : RgV} (h : SQ w base o m V) (hx : V.L[k]? = some x) : ∃ g, m.FA = some ⟨g, 0, none⟩ ∧ g < w.heap.size ∧ V.L.length ≤ m.fc ∧ ∀ W, SQ W base o m V → W.rangeAt g (k * 2) [.slice x.A x.n x.c, .slice x.B x.m x.d] := by
  have hlt : k < V.L.length := (List.getElem?_eq_some_iff.1 hx).1; rcases own_some h.fr with ⟨_, h0, _⟩ | ⟨g, h1, h2, _⟩
  · omega
  · refine ⟨g, h1, (own_lt2 h.fr (by rw [h1]; rfl)).2, h2, fun W hs j v hj => ?_⟩; have ho := hs.fr; rw [h1] at ho; obtain ⟨cur, hB, hsz, hc2⟩ := own_blk ho; have hj2 : j < 2 := (List.getElem?_eq_some_iff.1 hj).1
    have hdr : ((V.L.flatMap RgV.cells).drop (k * 2))[j]? = some v := by
      rw [fm_drop RgV.cells 2 (fun _ => rfl), List.drop_eq_getElem_cons hlt, List.flatMap_cons, List.getElem?_append_left (by show j < 2; exact hj2)]; have e : V.L[k] = x := (by rw [List.getElem?_eq_getElem hlt] at hx; injection hx); rw [e]; exact hj
    rw [List.getElem?_drop] at hdr; rw [hB.cell, hc2 _ (by omega)]; exact hdr
theorem qCur_any (base : Nat) (o : SpO) (m : SqM) (V : SqV RgV) (k : Nat) (x : RgV) (w : World) (h : SQ w base o m V) (hp : V.p = k + 1) (hn : V.L.length ≤ 500) (hx : V.L[k]? = some x) (h1 : x.n ≤ 1000000) (h2 : x.m ≤ 1000000) :
    Calls Tryz.prog 64 #[ptr m.q] w fun e w' => (∃ A c B d, e = .returned (.agg #[.slice A x.n c, .slice B x.m d]) ∧ RgO w' w.heap.size ⟨A, x.n, c, x.l, B, x.m, d, x.k⟩) ∧ Below w.heap.size w w' := by
  have H : Sl _ := ⟨h⟩; have HD : Sl (Lg w w []) := ⟨Lg.nil w⟩; obtain ⟨q, hq⟩ : ∃ q, m.q = q := ⟨_, rfl⟩; obtain ⟨n, hnn⟩ : ∃ n, V.L.length = n := ⟨_, rfl⟩; obtain ⟨g, hg, hgl, hgc, hgr⟩ := h.frame_at hx; have hkn : k < n := (by rw [← hnn]; exact (List.getElem?_eq_some_iff.1 hx).1); have HQ : Sl (m.q = q ∧ V.L.length = n ∧ m.FA = some ⟨g, 0, none⟩ ∧ V.p = k + 1 ∧ q < w.heap.size) := ⟨⟨hq, hnn, hg, hp, by rw [← hq]; exact h.blk.lt⟩⟩; have HX : Sl (RgM w x) := ⟨(h.rg x (List.mem_of_getElem? hx)).now⟩; have HN : Sl (x.n ≤ 1000000 ∧ x.m ≤ 1000000) := ⟨⟨h1, h2⟩⟩; have HR : Sl _ := ⟨hgr⟩; have hkI : (k : Int) < (n : Int) := (by omega); have hk0 : (0 : Int) ≤ (k : Int) := (by omega); have hn500 : (n : Int) ≤ 500 := (by omega); have hk500 : (k : Int) < 500 := (by omega); have hwk : IntKind.i64.wrap (k : Int) = (k : Int) := (by rw [IntKind.wrap_i64]; omega); rw [hq]; rw [hnn] at hgc; clear h hp hn hx h1 h2 hq hnn hg hgl hgr hkn; go_enter Tryz.func64, Tryz.ntmps64
  go_upto_region 1 with ((with_reducible show wpList _ _ _ _ _ _); first
    | (refine wpList_alloc_new 2 rfl rfl 45 rfl #[.slice none 0 0, .slice none 0 0] alloc_reg ?_; rintro wr gr zg zm zs zb; replace HD : Sl _ := ⟨HD.out.new zg zm zb⟩; clear zg zm zs zb))
  have hbd : Below wr.heap.size wr wr.drew := below_drewN (Below.refl _ _) 1; have HBD : Sl _ := ⟨hbd⟩
  have HQD : Sl (∀ W, Mv gr wr W → W.cell? ⟨q, 5, none⟩ = some (.slice (some ⟨g, 0, none⟩) n m.fc) ∧ W.cell? ⟨q, 6, none⟩ = some (.int .i64 ((k : Int) + 1)) ∧ W.rangeAt g (k * 2) [.slice x.A x.n x.c, .slice x.B x.m x.d]) := ⟨fun W hW => by
    have hgr := HD.out.ld.ge _ List.mem_cons_self; have hs := (H.out.below HD.out.bl).keep (MvP.of_mv hW) (fun i hi e => by have := H.out.held_lt hi; have hgr : w.heap.size ≤ gr := hgr; omega); refine ⟨by rw [← HQ.out.1, ← HQ.out.2.1, ← HQ.out.2.2.1]; exact hs.cell 5 rfl, ?_, HR.out W hs⟩; have h6 : W.cell? ⟨m.q, 6, none⟩ = some (.int .i64 (V.p : Int)) := hs.cell 6 rfl; rw [HQ.out.1, HQ.out.2.2.2.1] at h6
    exact h6⟩
  have c1 : wr.drew.cell? ⟨q, 5, none⟩ = some (.slice (some ⟨g, 0, none⟩) n m.fc) := (HQD.out _ (Mv.below hbd)).1; have HCC : Sl _ := ⟨copied_any x wr.drew ((HX.out.below HD.out.bl).below hbd) HN.out.1 HN.out.2⟩; clear hbd; go_wp2_with fail; clear c1; have hm := Mv.below (g := gr) HBD.out; refine wp_region_held_drew (S := fun w' => Mv gr wr w') (by kernel_rfl) hm (fun hHeld => ?_); clear hm; refine hM 0 (v := ptr q) rfl rfl ?_; simp only [pS]; refine hS 1 (v := ptr q) rfl rfl ?_; simp only [pS]; refine hS 2 (v := .pointer (some ⟨q, 5, none⟩)) rfl rfl ?_; simp only [pS]
  refine hC 3 (v := .slice (some ⟨g, 0, none⟩) n m.fc) rfl rfl (fun w' h => by
    have hc := (HQD.out w' h).1
    go_simp) ?_
  simp only [pS]; refine hM 4 (v := ptr q) rfl rfl ?_; simp only [pS]; refine hS 5 (v := ptr q) rfl rfl ?_; simp only [pS]; refine hS 6 (v := .pointer (some ⟨q, 6, none⟩)) rfl rfl ?_; simp only [pS]
  refine hC 7 (v := .int .i64 ((k : Int) + 1)) rfl rfl (fun w' h => by
    have hc := (HQD.out w' h).2.1
    go_simp) ?_
  simp only [pS]; refine hS 8 (v := .int .i64 (k : Int)) rfl rfl ?_; simp only [pS]; refine hS 9 (v := .pointer (some ⟨g, k * 2, none⟩)) rfl rfl ?_; simp only [pS]; refine hL 10 45 (.tmp 12) rfl rfl rfl g (k * 2) rfl #[.slice x.A x.n x.c, .slice x.B x.m x.d] _ (fun w' h => (HQD.out w' h).2.2) Tryz.underlying45 rfl ?_; simp only [pS]; refine hO 11 rfl rfl fun K hK => ?_; go_simp; go_at_call 43
  (with_reducible refine (HCC.out).mono ?_)
  rintro e3 w3 ⟨⟨A0, c0, B0, d0, rfl, ho⟩, hb3⟩; have hb3 : Below wr.heap.size wr w3 := HBD.out.trans (hb3.mono HBD.out.size); have HB3 : Sl _ := ⟨hb3⟩; have HO : Sl (RgO w3 wr.heap.size ⟨A0, x.n, c0, x.l, B0, x.m, d0, x.k⟩) := ⟨ho⟩; clear ho hb3; refine hK.out _ _ (Mv.below HB3.out) (fun hHeld => ?_); clear hK K
  (try simp only [pS])
  refine hO 12 rfl rfl fun K hK => ?_; refine wp_store_partm 45 (.tmp 2) (.tmp 14) rfl gr 0 #[.slice A0 x.n c0, .slice B0 x.m d0] rfl rfl 45 _ #[.slice A0 x.n c0, .slice B0 x.m d0] ((HD.out.at_ 0 rfl).below HB3.out (HD.out.at_ 0 rfl).lt) (by simp) (putA_all _ _ rfl) (by kernel_rfl) (by simp [Value.oneCell']) ?_; rintro w6 zm zs zb; have HZ : Sl _ := ⟨And.intro zm zb⟩; refine hK.out _ _ (Mv.trans (Mv.below HB3.out) zm) (fun hHeld => ?_); clear hK K zm zs zb; simp only [pS]; refine wpAnyH_done (by kernel_rfl) ?_ _; clear hHeld; go_wp2_with fail; refine bodyPost_ret (results_row1c rfl _ _ gr _ _ _ rfl HZ.out.2 Tryz.underlying45 rfl (by kernel_rfl)) rfl ?_; have hlt := (HD.out.at_ 0 rfl).lt; have hsz := HB3.out.size; have hww := HD.out.bl.size; have hge : w.heap.size ≤ gr := HD.out.ld.ge _ List.mem_cons_self; refine ⟨⟨A0, c0, B0, d0, rfl, ?_⟩, below_mv (HD.out.bl.trans (HB3.out.mono hww)) HZ.out.1 hge (by omega)⟩; exact ⟨OI.mono (HO.out.s.mv HZ.out.1 (fun k hk => by have := (HO.out.s.lt k hk).1; omega)) hww, OI.mono (HO.out.c.mv HZ.out.1 (fun k hk => by have := (HO.out.c.lt k hk).1; omega)) hww, HO.out.ne⟩
theorem qNext_no (base : Nat) (o : SpO) (m : SqM) (V : SqV RgV) (w : World) (h : SQ w base o m V) (hn : V.L.length ≤ 500) (hp : V.p = V.L.length) :
    Calls Tryz.prog 22 #[ptr m.q] w fun en w' => en = .returned (.tuple #[.agg #[.slice none 0 0, .slice none 0 0], .int .i64 4]) ∧ Below w.heap.size w w' := by
  have H : Sl _ := ⟨h⟩; have HD : Sl (Lg w w []) := ⟨Lg.nil w⟩; obtain ⟨q, hq⟩ : ∃ q, m.q = q := ⟨_, rfl⟩; obtain ⟨n, hnn⟩ : ∃ n, V.L.length = n := ⟨_, rfl⟩; obtain ⟨p, hpp⟩ : ∃ p, V.p = p := ⟨_, rfl⟩; have HQ : Sl (m.q = q ∧ V.L.length = n ∧ V.p = p) := ⟨⟨hq, hnn, hpp⟩⟩; have hpn : p = n := (by omega); have hpb : ((p : Int) == (n : Int)) = true := (by simp; omega); have hpI : (p : Int) = (n : Int) := (by omega); have hn500 : (n : Int) ≤ 500 := (by omega); clear hpn; rw [hq]; clear h hn hp hq hnn hpp; go_enter Tryz.func22, Tryz.ntmps22
  go_upto_region 1 with ((with_reducible show wpList _ _ _ _ _ _); first
    | (refine wpList_alloc_new 2 rfl rfl 45 rfl #[.slice none 0 0, .slice none 0 0] alloc_reg ?_; rintro wr gr zg zm zs zb; replace HD : Sl _ := ⟨HD.out.new zg zm zb⟩; clear zg zm zs zb))
  have HS : Sl (SQ wr base o m V) := ⟨H.out.below HD.out.bl⟩; have c0 : wr.cell? ⟨q, 0, none⟩ = some (.bool true) := (by rw [← HQ.out.1]; exact HS.out.cell 0 rfl); have HC0 : Sl _ := ⟨isq_any q wr c0⟩; go_wp2_with fail; refine HC0.out.mono ?_; rintro en w1 ⟨rfl, rfl⟩; clear HC0 c0; have HBD : Sl (Below w1.heap.size w1 w1.drew) := ⟨below_drewN (Below.refl _ _) 1⟩; have c5 : w1.drew.cell? ⟨q, 5, none⟩ = some (.slice m.FA n m.fc) := (by rw [← HQ.out.1, ← HQ.out.2.1]; exact (HS.out.below HBD.out).cell 5 rfl); have c6 : w1.drew.cell? ⟨q, 6, none⟩ = some (.int .i64 (p : Int)) := (by rw [← HQ.out.1, ← HQ.out.2.2]; exact (HS.out.below HBD.out).cell 6 rfl); have hS0 : w1.drew.cell? ⟨q, 5, none⟩ = some (.slice m.FA n m.fc) ∧ w1.drew.cell? ⟨q, 6, none⟩ = some (.int .i64 (p : Int)) := ⟨c5, c6⟩; clear c5 c6; go_wp2_with fail; have hm := hS0; refine wp_region_held_drew (S := fun w' => w'.cell? ⟨q, 5, none⟩ = some (.slice m.FA n m.fc) ∧ w'.cell? ⟨q, 6, none⟩ = some (.int .i64 (p : Int))) (by kernel_rfl) hm (fun hHeld => ?_); clear hm; refine hM 0 (v := ptr q) rfl rfl ?_; simp only [pS]; refine hS 1 (v := ptr q) rfl rfl ?_; simp only [pS]; refine hS 2 (v := .pointer (some ⟨q, 6, none⟩)) rfl rfl ?_; simp only [pS]
  refine hC 3 (v := .int .i64 (p : Int)) rfl rfl (fun w' h => by
    have hc := h.2
    go_simp) ?_
  simp only [pS]; refine hM 4 (v := ptr q) rfl rfl ?_; simp only [pS]; refine hS 5 (v := ptr q) rfl rfl ?_; simp only [pS]; refine hS 6 (v := .pointer (some ⟨q, 5, none⟩)) rfl rfl ?_; simp only [pS]
  refine hC 7 (v := .slice m.FA n m.fc) rfl rfl (fun w' h => by
    have hc := h.1
    go_simp) ?_
  simp only [pS]; refine hS 8 (v := .int .i64 (n : Int)) rfl rfl ?_; simp only [pS]; refine hS 9 (v := .bool true) rfl rfl ?_; simp only [pS]; refine hS 10 (v := .bool true) rfl rfl ?_; simp only [pS]; refine wpAnyH_done (by kernel_rfl) ?_ _; clear hHeld hS0; replace HD : Sl (Lg w w1.drew [(gr, 45, #[.slice none 0 0, .slice none 0 0])]) := ⟨HD.out.below HBD.out⟩; generalize w1.drew = w5 at *
  go_wp2_with ((with_reducible show wpList _ _ _ _ _ _); first
    | (refine wpList_store_whole rfl 45 (.tmp 2) (.tmp 19) rfl gr #[.slice none 0 0, .slice none 0 0] rfl rfl 45 _ (HD.out.at_ 0 rfl) rfl (by kernel_rfl) (by simp [Value.oneCell']) ?_; rintro w2 zm zs zb; replace HD : Sl _ := ⟨HD.out.upd zm zb⟩; clear zm zs zb))
  refine bodyPost_ret (results_row2c rfl _ _ gr _ _ _ rfl (HD.out.at_ 0 rfl) Tryz.underlying45 rfl (by kernel_rfl)) rfl ?_; exact ⟨rfl, HD.out.bl⟩
theorem qNext_any (base : Nat) (o : SpO) (m : SqM) (V : SqV RgV) (x : RgV) (w : World) (h : SQ w base o m V) (hn : V.L.length ≤ 500) (hx : V.L[V.p]? = some x) (h1 : x.n ≤ 1000000) (h2 : x.m ≤ 1000000) :
    Calls Tryz.prog 22 #[ptr m.q] w fun en w' => (∃ A c B d, en = .returned (.tuple #[.agg #[.slice A x.n c, .slice B x.m d], .int .i64 0]) ∧ Dep w' (fun i => w.heap.size ≤ i) fun W => RgM W ⟨A, x.n, c, x.l, B, x.m, d, x.k⟩) ∧ SQ w' base o m { V with p := V.p + 1 } ∧ Foot m m w w' := by
  have H : Sl _ := ⟨h⟩; have HD : Sl (Lg w w []) := ⟨Lg.nil w⟩; obtain ⟨q, hq⟩ : ∃ q, m.q = q := ⟨_, rfl⟩; obtain ⟨n, hnn⟩ : ∃ n, V.L.length = n := ⟨_, rfl⟩; obtain ⟨p, hpp⟩ : ∃ p, V.p = p := ⟨_, rfl⟩; have HQ : Sl (m.q = q ∧ V.L.length = n ∧ V.p = p) := ⟨⟨hq, hnn, hpp⟩⟩; have hpn : p < n := (by rw [← hnn, ← hpp]; exact (List.getElem?_eq_some_iff.1 hx).1); have hpb : ((p : Int) == (n : Int)) = false := (by simp; omega); have hpI : ¬ (p : Int) = (n : Int) := (by omega); have hp500 : (p : Int) < 500 := (by omega); have hp0 : (0 : Int) ≤ (p : Int) := (by omega); have hn500 : (n : Int) ≤ 500 := (by omega); have HX : Sl _ := ⟨hx⟩; have HN : Sl (x.n ≤ 1000000 ∧ x.m ≤ 1000000 ∧ V.L.length ≤ 500) := ⟨⟨h1, h2, hn⟩⟩; rw [hq]; clear h hn hx h1 h2 hq hnn hpp hpn; go_enter Tryz.func22, Tryz.ntmps22
  go_upto_region 1 with ((with_reducible show wpList _ _ _ _ _ _); first
    | (refine wpList_alloc_new 2 rfl rfl 45 rfl #[.slice none 0 0, .slice none 0 0] alloc_reg ?_; rintro wr gr zg zm zs zb; replace HD : Sl _ := ⟨HD.out.new zg zm zb⟩; clear zg zm zs zb))
  have HS : Sl (SQ wr base o m V) := ⟨H.out.below HD.out.bl⟩; have c0 : wr.cell? ⟨q, 0, none⟩ = some (.bool true) := (by rw [← HQ.out.1]; exact HS.out.cell 0 rfl); have HC0 : Sl _ := ⟨isq_any q wr c0⟩; go_wp2_with fail; refine HC0.out.mono ?_; rintro en w1 ⟨rfl, rfl⟩; clear HC0 c0; have HBD : Sl (Below w1.heap.size w1 w1.drew) := ⟨below_drewN (Below.refl _ _) 1⟩; have c5 : w1.drew.cell? ⟨q, 5, none⟩ = some (.slice m.FA n m.fc) := (by rw [← HQ.out.1, ← HQ.out.2.1]; exact (HS.out.below HBD.out).cell 5 rfl); have c6 : w1.drew.cell? ⟨q, 6, none⟩ = some (.int .i64 (p : Int)) := (by rw [← HQ.out.1, ← HQ.out.2.2]; exact (HS.out.below HBD.out).cell 6 rfl); have hS0 : w1.drew.cell? ⟨q, 5, none⟩ = some (.slice m.FA n m.fc) ∧ w1.drew.cell? ⟨q, 6, none⟩ = some (.int .i64 (p : Int)) := ⟨c5, c6⟩; clear c5 c6; go_wp2_with fail; have hm := hS0; refine wp_region_held_drew (S := fun w' => w'.cell? ⟨q, 5, none⟩ = some (.slice m.FA n m.fc) ∧ w'.cell? ⟨q, 6, none⟩ = some (.int .i64 (p : Int))) (by kernel_rfl) hm (fun hHeld => ?_); clear hm; refine hM 0 (v := ptr q) rfl rfl ?_; simp only [pS]; refine hS 1 (v := ptr q) rfl rfl ?_; simp only [pS]; refine hS 2 (v := .pointer (some ⟨q, 6, none⟩)) rfl rfl ?_; simp only [pS]
  refine hC 3 (v := .int .i64 (p : Int)) rfl rfl (fun w' h => by
    have hc := h.2
    go_simp) ?_
  simp only [pS]; refine hM 4 (v := ptr q) rfl rfl ?_; simp only [pS]; refine hS 5 (v := ptr q) rfl rfl ?_; simp only [pS]; refine hS 6 (v := .pointer (some ⟨q, 5, none⟩)) rfl rfl ?_; simp only [pS]
  refine hC 7 (v := .slice m.FA n m.fc) rfl rfl (fun w' h => by
    have hc := h.1
    go_simp) ?_
  simp only [pS]; refine hS 8 (v := .int .i64 (n : Int)) rfl rfl ?_; simp only [pS]; refine hS 9 (v := .bool false) rfl rfl ?_; simp only [pS]; refine hS 10 (v := .bool false) rfl rfl ?_; simp only [pS]; refine wpAnyH_done (by kernel_rfl) ?_ _; clear hHeld hS0; replace HD : Sl (Lg w w1.drew [(gr, 45, #[.slice none 0 0, .slice none 0 0])]) := ⟨HD.out.below HBD.out⟩; replace HS : Sl (SQ w1.drew base o m V) := ⟨HS.out.below HBD.out⟩; generalize w1.drew = w5 at *
  have HB : Sl (Blk w5 q 96 (sqC o m V)) := ⟨by rw [← HQ.out.1]; exact HS.out.blk⟩; have c6 : w5.cell? ⟨q, 6, none⟩ = some (.int .i64 (p : Int)) := (by rw [← HQ.out.1, ← HQ.out.2.2]; exact HS.out.cell 6 rfl); go_wp2_with ((with_reducible show wpList _ _ _ _ _ _); (refine wpList_store_cell rfl 3 (.tmp 26) (.tmp 24) rfl q 6 (.int .i64 ((p : Int) + 1)) rfl rfl 96 _ _ HB.out (by simp [sqC]) rfl (by kernel_rfl) rfl rfl ?_; rintro w6 zm zs zb zw; have HZ : Sl _ := ⟨And.intro zm zb⟩; clear zm zs zb zw)); have HGE : Sl (w.heap.size ≤ gr) := ⟨HD.out.ld.ge _ List.mem_cons_self⟩
  have HSV : Sl (SQ w6 base o m { V with p := V.p + 1 } ∧ Foot m m w w6) := ⟨by
    have h := HS.out.pd (w' := w6) (p := V.p + 1) (d := V.d) (by rw [HQ.out.1]; have hb := HZ.out.2; rw [show ((p : Int) + 1 : Int) = ((V.p + 1 : Nat) : Int) by (rw [HQ.out.2.2]; push_cast; rfl)] at hb; exact hb) ((MvP.of_mv HZ.out.1).mono fun i e => e.trans HQ.out.1.symm)
    exact ⟨h.1, (Foot.of_below HD.out.bl).trans h.2⟩⟩
  have HG6 : Sl (Blk w6 gr 45 #[.slice none 0 0, .slice none 0 0]) := ⟨(HD.out.at_ 0 rfl).mv HZ.out.1 (by have := HGE.out; have hl := H.out.blk.lt; rw [HQ.out.1] at hl; omega)⟩
  have HCC : Sl (Calls Tryz.prog 64 #[ptr q] w6 fun e w' => (∃ A c B d, e = .returned (.agg #[.slice A x.n c, .slice B x.m d]) ∧ RgO w' w6.heap.size ⟨A, x.n, c, x.l, B, x.m, d, x.k⟩) ∧ Below w6.heap.size w6 w') := ⟨by
    have h := qCur_any base o m { V with p := V.p + 1 } (V.p) x w6 HSV.out.1 rfl HN.out.2.2 HX.out HN.out.1 HN.out.2.1; rw [HQ.out.1] at h
    exact h⟩
  clear c6 HB HS; go_wp2_with fail; refine HCC.out.mono ?_; rintro en w7 ⟨⟨A0, c0, B0, d0, rfl, ho⟩, hb⟩; have HO : Sl (RgO w7 w6.heap.size ⟨A0, x.n, c0, x.l, B0, x.m, d0, x.k⟩ ∧ Below w6.heap.size w6 w7) := ⟨⟨ho, hb⟩⟩; have HG7 : Sl (Blk w7 gr 45 #[.slice none 0 0, .slice none 0 0]) := ⟨HG6.out.below hb HG6.out.lt⟩; clear ho hb HCC
  go_wp2_with ((with_reducible show wpList _ _ _ _ _ _); first
    | (refine wpList_store_whole rfl 45 (.tmp 2) (.tmp 28) rfl gr #[.slice A0 x.n c0, .slice B0 x.m d0] rfl rfl 45 _ HG7.out rfl (by kernel_rfl) (by simp [Value.oneCell']) ?_; rintro w8 zm zs zb; have HZ8 : Sl _ := ⟨And.intro zm zb⟩; clear zm zs zb))
  refine bodyPost_ret (results_row2c rfl _ _ gr _ _ _ rfl HZ8.out.2 Tryz.underlying45 rfl (by kernel_rfl)) rfl ?_; have hlt := HG6.out.lt; refine ⟨⟨A0, c0, B0, d0, rfl, ?_⟩, (HSV.out.1.below HO.out.2).keep (MvP.of_mv HZ8.out.1) (fun i hi e => by have := H.out.held_lt hi; have := HGE.out; omega), (HSV.out.2.trans (Foot.of_below HO.out.2)).above (MvP.of_mv HZ8.out.1) (fun i e => by rw [e]; exact HGE.out)⟩; have hws := HSV.out.2.mv.size; exact Dep.reg (b := w6.heap.size) (RgO.mk (HO.out.1.s.mv HZ8.out.1 (fun k hk => by have := (HO.out.1.s.lt k hk).1; omega)) (HO.out.1.c.mv HZ8.out.1 (fun k hk => by have := (HO.out.1.c.lt k hk).1; omega)) HO.out.1.ne) (fun i h1 h2 => by show w.heap.size ≤ i; omega)
theorem qBack_no (base : Nat) (o : SpO) (m : SqM) (V : SqV RgV) (w : World) (h : SQ w base o m V) (hp : V.p < 2) :
    Calls Tryz.prog 75 #[ptr m.q] w fun en w' => en = .returned (.tuple #[.agg #[.slice none 0 0, .slice none 0 0], .int .i64 4]) ∧ Below w.heap.size w w' := by
  have H : Sl _ := ⟨h⟩; have HD : Sl (Lg w w []) := ⟨Lg.nil w⟩; obtain ⟨q, hq⟩ : ∃ q, m.q = q := ⟨_, rfl⟩; obtain ⟨n, hnn⟩ : ∃ n, V.L.length = n := ⟨_, rfl⟩; obtain ⟨p, hpp⟩ : ∃ p, V.p = p := ⟨_, rfl⟩; have HQ : Sl (m.q = q ∧ V.L.length = n ∧ V.p = p) := ⟨⟨hq, hnn, hpp⟩⟩; have hpn : p < 2 := (by omega); have hpd : decide ((p : Int) < 2) = true := decide_eq_true (by omega); have hpI : (p : Int) < 2 := (by omega); rw [hq]; clear h hp hq hnn hpp hpn; go_enter Tryz.func75, Tryz.ntmps75
  go_upto_region 1 with ((with_reducible show wpList _ _ _ _ _ _); first
    | (refine wpList_alloc_new 2 rfl rfl 45 rfl #[.slice none 0 0, .slice none 0 0] alloc_reg ?_; rintro wr gr zg zm zs zb; replace HD : Sl _ := ⟨HD.out.new zg zm zb⟩; clear zg zm zs zb))
  have HS : Sl (SQ wr base o m V) := ⟨H.out.below HD.out.bl⟩; have c0 : wr.cell? ⟨q, 0, none⟩ = some (.bool true) := (by rw [← HQ.out.1]; exact HS.out.cell 0 rfl); have HC0 : Sl _ := ⟨isq_any q wr c0⟩; go_wp2_with fail; refine HC0.out.mono ?_; rintro en w1 ⟨rfl, rfl⟩; clear HC0 c0; have c6 : w1.cell? ⟨q, 6, none⟩ = some (.int .i64 (p : Int)) := (by rw [← HQ.out.1, ← HQ.out.2.2]; exact HS.out.cell 6 rfl)
  go_wp2_with ((with_reducible show wpList _ _ _ _ _ _); first
    | (refine wpList_store_whole rfl 45 (.tmp 2) (.tmp 14) rfl gr #[.slice none 0 0, .slice none 0 0] rfl rfl 45 _ (HD.out.at_ 0 rfl) rfl (by kernel_rfl) (by simp [Value.oneCell']) ?_; rintro w2 zm zs zb; replace HD : Sl _ := ⟨HD.out.upd zm zb⟩; clear zm zs zb))
  refine bodyPost_ret (results_row2c rfl _ _ gr _ _ _ rfl (HD.out.at_ 0 rfl) Tryz.underlying45 rfl (by kernel_rfl)) rfl ?_; exact ⟨rfl, HD.out.bl⟩
theorem qBack_any (base : Nat) (o : SpO) (m : SqM) (V : SqV RgV) (k : Nat) (x : RgV) (w : World) (h : SQ w base o m V) (hn : V.L.length ≤ 500) (hp : V.p = k + 2) (hx : V.L[k]? = some x) (h1 : x.n ≤ 1000000) (h2 : x.m ≤ 1000000) :
    Calls Tryz.prog 75 #[ptr m.q] w fun en w' => (∃ A c B d, en = .returned (.tuple #[.agg #[.slice A x.n c, .slice B x.m d], .int .i64 0]) ∧ Dep w' (fun i => w.heap.size ≤ i) fun W => RgM W ⟨A, x.n, c, x.l, B, x.m, d, x.k⟩) ∧ SQ w' base o m { V with p := V.p - 1 } ∧ Foot m m w w' := by
  have H : Sl _ := ⟨h⟩; have HD : Sl (Lg w w []) := ⟨Lg.nil w⟩; obtain ⟨q, hq⟩ : ∃ q, m.q = q := ⟨_, rfl⟩; obtain ⟨n, hnn⟩ : ∃ n, V.L.length = n := ⟨_, rfl⟩; have hkn : k < n := (by rw [← hnn]; exact (List.getElem?_eq_some_iff.1 hx).1); obtain ⟨p, hpp⟩ : ∃ p, V.p = p := ⟨_, rfl⟩; have HQ : Sl (m.q = q ∧ V.L.length = n ∧ V.p = p) := ⟨⟨hq, hnn, hpp⟩⟩; have HP : Sl (p = k + 2) := ⟨by omega⟩; have hpd : decide ((p : Int) < 2) = false := decide_eq_false (by omega); have hpI : ¬ (p : Int) < 2 := (by omega); have hp500 : (p : Int) ≤ 501 := (by omega); have hp0 : (0 : Int) ≤ (p : Int) := (by omega); have HX : Sl _ := ⟨hx⟩; have HN : Sl (x.n ≤ 1000000 ∧ x.m ≤ 1000000 ∧ V.L.length ≤ 500) := ⟨⟨h1, h2, hn⟩⟩; rw [hq]; clear h hn hx h1 h2 hp hq hnn hpp hkn; go_enter Tryz.func75, Tryz.ntmps75
  go_upto_region 1 with ((with_reducible show wpList _ _ _ _ _ _); first
    | (refine wpList_alloc_new 2 rfl rfl 45 rfl #[.slice none 0 0, .slice none 0 0] alloc_reg ?_; rintro wr gr zg zm zs zb; replace HD : Sl _ := ⟨HD.out.new zg zm zb⟩; clear zg zm zs zb))
  have HS : Sl (SQ wr base o m V) := ⟨H.out.below HD.out.bl⟩; have c0 : wr.cell? ⟨q, 0, none⟩ = some (.bool true) := (by rw [← HQ.out.1]; exact HS.out.cell 0 rfl); have HC0 : Sl _ := ⟨isq_any q wr c0⟩; go_wp2_with fail; refine HC0.out.mono ?_; rintro en w1 ⟨rfl, rfl⟩; clear HC0 c0; generalize w1 = w5 at *
  have HB : Sl (Blk w5 q 96 (sqC o m V)) := ⟨by rw [← HQ.out.1]; exact HS.out.blk⟩; have c6 : w5.cell? ⟨q, 6, none⟩ = some (.int .i64 (p : Int)) := (by rw [← HQ.out.1, ← HQ.out.2.2]; exact HS.out.cell 6 rfl); go_wp2_with ((with_reducible show wpList _ _ _ _ _ _); (refine wpList_store_cell rfl 3 (.tmp 21) (.tmp 19) rfl q 6 (.int .i64 ((p : Int) - 1)) rfl rfl 96 _ _ HB.out (by simp [sqC]) rfl (by kernel_rfl) rfl rfl ?_; rintro w6 zm zs zb zw; have HZ : Sl _ := ⟨And.intro zm zb⟩; clear zm zs zb zw)); have HGE : Sl (w.heap.size ≤ gr) := ⟨HD.out.ld.ge _ List.mem_cons_self⟩
  have HSV : Sl (SQ w6 base o m { V with p := V.p - 1 } ∧ Foot m m w w6) := ⟨by
    have h := HS.out.pd (w' := w6) (p := V.p - 1) (d := V.d) (by rw [HQ.out.1]; have hb := HZ.out.2; rw [show ((p : Int) - 1 : Int) = ((V.p - 1 : Nat) : Int) by (have := HP.out; rw [HQ.out.2.2]; omega)] at hb; exact hb) ((MvP.of_mv HZ.out.1).mono fun i e => e.trans HQ.out.1.symm)
    exact ⟨h.1, (Foot.of_below HD.out.bl).trans h.2⟩⟩
  have HG6 : Sl (Blk w6 gr 45 #[.slice none 0 0, .slice none 0 0]) := ⟨(HD.out.at_ 0 rfl).mv HZ.out.1 (by have := HGE.out; have hl := H.out.blk.lt; rw [HQ.out.1] at hl; omega)⟩
  have HCC : Sl (Calls Tryz.prog 64 #[ptr q] w6 fun e w' => (∃ A c B d, e = .returned (.agg #[.slice A x.n c, .slice B x.m d]) ∧ RgO w' w6.heap.size ⟨A, x.n, c, x.l, B, x.m, d, x.k⟩) ∧ Below w6.heap.size w6 w') := ⟨by
    have h := qCur_any base o m { V with p := V.p - 1 } (k) x w6 HSV.out.1 (by show V.p - 1 = k + 1; have := HP.out; rw [HQ.out.2.2]; omega) HN.out.2.2 HX.out HN.out.1 HN.out.2.1; rw [HQ.out.1] at h
    exact h⟩
  clear c6 HB HS; go_wp2_with fail; refine HCC.out.mono ?_; rintro en w7 ⟨⟨A0, c0, B0, d0, rfl, ho⟩, hb⟩; have HO : Sl (RgO w7 w6.heap.size ⟨A0, x.n, c0, x.l, B0, x.m, d0, x.k⟩ ∧ Below w6.heap.size w6 w7) := ⟨⟨ho, hb⟩⟩; have HG7 : Sl (Blk w7 gr 45 #[.slice none 0 0, .slice none 0 0]) := ⟨HG6.out.below hb HG6.out.lt⟩; clear ho hb HCC
  go_wp2_with ((with_reducible show wpList _ _ _ _ _ _); first
    | (refine wpList_store_whole rfl 45 (.tmp 2) (.tmp 23) rfl gr #[.slice A0 x.n c0, .slice B0 x.m d0] rfl rfl 45 _ HG7.out rfl (by kernel_rfl) (by simp [Value.oneCell']) ?_; rintro w8 zm zs zb; have HZ8 : Sl _ := ⟨And.intro zm zb⟩; clear zm zs zb))
  refine bodyPost_ret (results_row2c rfl _ _ gr _ _ _ rfl HZ8.out.2 Tryz.underlying45 rfl (by kernel_rfl)) rfl ?_; have hlt := HG6.out.lt; refine ⟨⟨A0, c0, B0, d0, rfl, ?_⟩, (HSV.out.1.below HO.out.2).keep (MvP.of_mv HZ8.out.1) (fun i hi e => by have := H.out.held_lt hi; have := HGE.out; omega), (HSV.out.2.trans (Foot.of_below HO.out.2)).above (MvP.of_mv HZ8.out.1) (fun i e => by rw [e]; exact HGE.out)⟩; have hws := HSV.out.2.mv.size; exact Dep.reg (b := w6.heap.size) (RgO.mk (HO.out.1.s.mv HZ8.out.1 (fun k hk => by have := (HO.out.1.s.lt k hk).1; omega)) (HO.out.1.c.mv HZ8.out.1 (fun k hk => by have := (HO.out.1.c.lt k hk).1; omega)) HO.out.1.ne) (fun i h1 h2 => by show w.heap.size ≤ i; omega)
theorem lays166 : Go.Proofs.Lays.n166 Tryz.prog Tryz.lays156_ren := {
  mixed := Tryz.lays156.mixed
  f166 := Tryz.lays156.f166
  f240 := Tryz.lays156.f240
  f276 := Tryz.lays156.f276
  t0 := Tryz.lays156.t0
  a0 := Tryz.lays156.a0
  z0 := Tryz.lays156.z0
  v0 := Tryz.lays156.v0
  t3 := Tryz.lays156.t3
  a3 := Tryz.lays156.a3
  z3 := Tryz.lays156.z3
  v3 := Tryz.lays156.v3
  t4 := Tryz.lays156.t4
  a4 := Tryz.lays156.a4
  z4 := Tryz.lays156.z4
  v4 := Tryz.lays156.v4
  t9 := Tryz.lays156.t9
  a9 := Tryz.lays156.a9
  z9 := Tryz.lays156.z9
  v9 := Tryz.lays156.v9
  t20 := Tryz.lays156.t20
  a20 := Tryz.lays156.a20
  z20 := Tryz.lays156.z20
  v20 := Tryz.lays156.v20
  t37 := Tryz.lays156.t37
  a37 := Tryz.lays156.a37
  z37 := Tryz.lays156.z37
  v37 := Tryz.lays156.v37
  t70 := Tryz.lays156.t70
  a70 := Tryz.lays156.a70
  z70 := Tryz.lays156.z70
  v70 := Tryz.lays156.v70
  t72 := Tryz.lays156.t72
  a72 := Tryz.lays156.a72
  z72 := Tryz.lays156.z72
  v72 := Tryz.lays156.v72
  t75 := Tryz.lays156.t75
  a75 := Tryz.lays156.a75
  z75 := Tryz.lays156.z75
  v75 := Tryz.lays156.v75
  t164 := Tryz.lays156.t164
  a164 := Tryz.lays156.a164
  z164 := Tryz.lays156.z164
  v164 := Tryz.lays156.v164 }
theorem lays169 : Go.Proofs.Lays.n169 Tryz.prog Tryz.lays156_ren := {
  mixed := Tryz.lays156.mixed
  f169 := Tryz.lays156.f169
  t0 := Tryz.lays156.t0
  a0 := Tryz.lays156.a0
  z0 := Tryz.lays156.z0
  v0 := Tryz.lays156.v0
  t3 := Tryz.lays156.t3
  a3 := Tryz.lays156.a3
  z3 := Tryz.lays156.z3
  v3 := Tryz.lays156.v3
  t9 := Tryz.lays156.t9
  a9 := Tryz.lays156.a9
  z9 := Tryz.lays156.z9
  v9 := Tryz.lays156.v9
  t37 := Tryz.lays156.t37
  a37 := Tryz.lays156.a37
  z37 := Tryz.lays156.z37
  v37 := Tryz.lays156.v37
  t70 := Tryz.lays156.t70
  a70 := Tryz.lays156.a70
  z70 := Tryz.lays156.z70
  v70 := Tryz.lays156.v70
  t72 := Tryz.lays156.t72
  a72 := Tryz.lays156.a72
  z72 := Tryz.lays156.z72
  v72 := Tryz.lays156.v72
  t127 := Tryz.lays156.t127
  a127 := Tryz.lays156.a127
  z127 := Tryz.lays156.z127
  v127 := Tryz.lays156.v127 }
def BD (w : World) (b : Nat) (s : ByteArray) : Prop := Lib.IsBuilderF 136 5 b b (Lib.byteCells s.data.toList) w
theorem BD.at_ {w : World} {b : Nat} {s : ByteArray} (h : BD w b s) : ∃ p v, (p = .pointer none ∨ p = .pointer (some ⟨b, 0, none⟩)) ∧ Blk w b 136 #[p, v] ∧ w.ownsRowF b 5 1 v (Lib.byteCells s.data.toList).length (Lib.byteCells s.data.toList) ∧ v.ownBlock ≠ some b := by
  rcases h with ⟨_, v, h1, h2, h3⟩ | ⟨_, v, h1, h2, h3⟩
  · exact ⟨_, v, .inl rfl, h1, h2, h3⟩
  · exact ⟨_, v, .inr rfl, h1, h2, h3⟩
theorem BD.keep {w w' : World} {b : Nat} {s : ByteArray} (h : BD w b s) (hk : ∀ k c t fz, w.heap[k]? = some (.cells c t fz) → (k = b ∨ t = 5) → w'.heap[k]? = w.heap[k]?) : BD w' b s := by
  have key : ∀ p, Lib.BuilderAtF 136 5 b b p (Lib.byteCells s.data.toList) w → Lib.BuilderAtF 136 5 b b p (Lib.byteCells s.data.toList) w' := by
    rintro p ⟨h0, v, h1, h2, h3⟩; refine ⟨h0, v, (hk b _ _ _ h1 (.inl rfl)).trans h1, ⟨h2.1, ?_⟩, h3⟩; rcases h2.2 with e | ⟨g, cap, cur, fz, e1, hb, hh, hr⟩
    · exact .inl e
    · exact .inr ⟨g, cap, cur, fz, e1, hb, (hk g _ _ _ hh (.inr rfl)).trans hh, hr⟩
  exact h.imp (key _) (key _)
theorem BD.below {w w' : World} {b : Nat} {s : ByteArray} (h : BD w b s) (hb : Below w.heap.size w w') : BD w' b s :=
  h.keep fun k c t fz hc _ => hb.block k ((Array.getElem?_eq_some_iff.1 hc).1)
theorem BD.mv {w w' : World} {b g : Nat} {s : ByteArray} {t : TypeId} {cs : Array Value} (h : BD w b s) (hm : Mv g w w') (hB : Blk w g t cs) (ht : t ≠ 5) (hne : t ≠ 136) : BD w' b s :=
  h.keep fun k c u fz hc hu => hm.block k ((Array.getElem?_eq_some_iff.1 hc).1) (fun e => by
    subst e; rw [hB] at hc; injection hc with hc
    injection hc with _ e2 _
    rcases hu with rfl | rfl
    · obtain ⟨p, v, _, h1, _⟩ := h.at_; have h1 := Option.some.inj (hB.symm.trans h1); injection h1 with _ e3 _
      exact hne e3
    · exact ht e2)
theorem OS.blk {w : World} {base : Nat} {A : Option Addr} {n c : Nat} {l : List ByteArray} (h : OS w base A n c l) {k : Nat} (hk : (Value.slice A n c).ownBlock = some k) : ∃ cs, Blk w k 9 cs := by
  rcases h.2 with ⟨h0, _⟩ | ⟨b, cap, cur, e1, _, hh, _⟩
  · rw [h0] at hk; cases hk
  · rw [e1] at hk; injection hk with hk
    subst hk; exact ⟨cur, hh⟩
theorem BD.grown {w w' : World} {b base : Nat} {s : ByteArray} {A : Option Addr} {n c : Nat} {l : List ByteArray} (h : BD w b s) (ho : OS w base A n c l) (hg : w.grownBy w' (Value.slice A n c).ownBlock) : BD w' b s :=
  h.keep fun k cc u fz hc hu => hg.block k ((Array.getElem?_eq_some_iff.1 hc).1) (fun e => by
    obtain ⟨cs, hB⟩ := ho.blk e.symm; rw [hB] at hc; injection hc with hc
    injection hc with _ e2 _
    rcases hu with rfl | rfl
    · obtain ⟨p, v, _, h1, _⟩ := h.at_; have h1 := Option.some.inj (hB.symm.trans h1); injection h1 with _ e3 _
      exact absurd e3 (by decide)
    · exact absurd e2 (by decide))
theorem BD.new {w : World} {b : Nat} (h : Blk w b 136 #[.pointer none, .slice none 0 0]) : BD w b ⟨#[]⟩ :=
  .inl ⟨Nat.le_refl _, _, h, World.ownsRowF_nil _ _ _ _, by intro e; cases e⟩
theorem BD.lt {w : World} {b : Nat} {s : ByteArray} (h : BD w b s) : b < w.heap.size := by
  obtain ⟨p, v, _, h1, _⟩ := h.at_; exact Blk.lt h1
theorem blk_kept {w w' : World} {b g : Nat} {s : ByteArray} {t : TypeId} {cs : Array Value} (hB : Blk w g t cs) (h : BD w b s) (hk : Lib.OthersKept 5 (some b) w w') (ht : t ≠ 5) (hne : t ≠ 136) : Blk w' g t cs := by
  refine hk g _ hB (fun e => ?_) (fun c fz e => ?_)
  · injection e with e
    subst e; obtain ⟨p, v, _, h1, _⟩ := h.at_; have h1 := Option.some.inj (hB.symm.trans h1); injection h1 with _ e3 _
    exact hne e3
  · injection e with _ e2 _
    exact ht e2
theorem Lg.kept {w0 w w' : World} {b : Nat} {s : ByteArray} {l : List (Nat × TypeId × Array Value)} (h : Lg w0 w l) (hb : BD w b s) (hk : Lib.OthersKept 5 (some b) w w') (hbl : Below b w w') (hwb : w0.heap.size ≤ b) (ht : ∀ p ∈ l, p.2.1 ≠ 5 ∧ p.2.1 ≠ 136) : Lg w0 w' l :=
  ⟨⟨h.bl.trans (hbl.mono hwb), fun p hp => blk_kept (h.ld.all p hp) hb hk (ht p hp).1 (ht p hp).2, h.ld.ge⟩, h.nd⟩
theorem OS.kept {w w' : World} {b base : Nat} {s : ByteArray} {A : Option Addr} {n c : Nat} {l : List ByteArray} (h : OS w base A n c l) (hb : BD w b s) (hk : Lib.OthersKept 5 (some b) w w') : OS w' base A n c l := by
  refine ⟨h.1, ?_⟩; rcases h.2 with h0 | ⟨g, cap, cur, e1, h2, hh, hr⟩
  · exact .inl h0
  · exact .inr ⟨g, cap, cur, e1, h2, blk_kept hh hb hk (by decide) (by decide), hr⟩
theorem wstr_any (b : Nat) (s t : ByteArray) (w : World) (h : BD w b s) (hl : s.size + t.size ≤ 140737488355328) :
    Calls Tryz.prog 84 #[.pointer (some ⟨b, 0, none⟩), .string t] w fun e w' => (∃ v : Int, e = .returned (.tuple #[.int .i64 v, .nilIface])) ∧ BD w' b (s ++ t) ∧ Below b w w' ∧ Lib.OthersKept 5 (some b) w w' := by
  have hlen : (Lib.byteCells s.data.toList).length = s.size := (by rw [Lib.byteCells_length]; rfl); refine (Any.Builder_WriteString_k lays166 Tryz.Builder_Extra_156 b b _ t w h (by omega) (Nat.le_of_lt h.lt)).mono ?_; rintro e w' ⟨h1, h2, h3, h4⟩; refine ⟨⟨_, h1⟩, .inr ?_, h3, h4⟩
  have e : Lib.byteCells (s ++ t).data.toList = Lib.byteCells s.data.toList ++ Lib.strCells t := by
    unfold Lib.byteCells Lib.strCells; rw [ByteArray.data_append, Array.toList_append, List.map_append]
  rw [e]; exact h2
theorem bstr_any (b : Nat) (s : ByteArray) (w : World) (h : BD w b s) :
    Calls Tryz.prog 86 #[.pointer (some ⟨b, 0, none⟩)] w fun e w' => e = .returned (.string s) ∧ Below b w w' := by
  refine (Any.Builder_String_any_k lays169 Tryz.Builder_Extra_156 b b s.data.toList w h (Nat.le_of_lt h.lt)).mono ?_; rintro e w' ⟨h1, _, h3, _⟩; exact ⟨by rw [h1], h3⟩
def joinB (l : List ByteArray) : ByteArray := ⟨(Lib.join (l.map (·.data.toList)) [32]).toArray⟩
theorem OS.at_ {w : World} {base : Nat} {A : Option Addr} {n c : Nat} {l : List ByteArray} (h : OS w base A n c l) (hn : 0 < n) : ∃ g, A = some ⟨g, 0, none⟩ ∧ base ≤ g ∧ g < w.heap.size ∧ ∀ j, j < n → w.cell? ⟨g, j, none⟩ = some (.string (l[j]?.getD ⟨#[]⟩)) := by
  have hs := h.ss; have hlt := h.lt; rcases h.2 with ⟨h0, h1⟩ | ⟨g, cap, cur, e1, h2, hh, hr⟩
  · omega
  · injection e1 with e1 _ _
    subst e1; refine ⟨g, rfl, h2, Blk.lt (t := 9) (cs := cur) hh, fun j hj => ?_⟩; obtain ⟨ad, e, _, hc⟩ := hs.cell hj; injection e with e
    subst e; rw [show (⟨g, 0, none⟩ : Addr).add j = ⟨g, j, none⟩ by unfold Addr.add; split <;> simp_all] at hc; exact hc
theorem join_any (base : Nat) (A : Option Addr) (n c : Nat) (l : List ByteArray) (w : World) (h : OS w base A n c l) (hn : n ≤ 1000000) (hl : (joinB l).size ≤ 1000000000) :
    Calls Tryz.prog 85 #[.slice A n c, .string ⟨#[32]⟩] w fun e w' => e = .returned (.string (joinB l)) ∧ Below w.heap.size w w' := by
  have hlen := h.len; subst hlen; rcases Nat.eq_zero_or_pos l.length with h0 | h0
  · have : l = [] := List.length_eq_zero_iff.1 h0; subst this; refine (Tryz.strings_Join_none A c ⟨#[32]⟩ w).mono ?_; rintro e w' ⟨h3, h4⟩; exact ⟨h3, h4 ▸ Below.refl _ _⟩
  · obtain ⟨g, rfl, _, hb, hc⟩ := h.at_ h0; refine (Tryz.strings_Join g 0 c l ⟨#[32]⟩ w (fun j x hx => ?_) hb (by omega) h.cap.1 ?_).mono ?_
    · rw [Nat.zero_add, hc j (List.getElem?_eq_some_iff.1 hx).1, hx]; rfl
    · have : (joinB l).size = (Lib.join (l.map (·.data.toList)) [32]).length := rfl; have e : (⟨#[32]⟩ : ByteArray).data.toList = [32] := rfl; rw [e]; omega
    · rintro e w' ⟨h3, h4⟩; exact ⟨h3, h4⟩
def kFr : ByteArray := ⟨#[102, 114, 97, 109, 101]⟩
def kMo : ByteArray := ⟨#[109, 111, 114, 101]⟩
theorem joinTail_len {m : Nat} : ∀ r : List (List UInt8), (∀ x ∈ r, x.length ≤ m) → (Lib.joinTail [32] r).length ≤ r.length * (m + 1)
  | [], _ => by simp [Lib.joinTail]
  | x :: r, h => by
    have h1 := joinTail_len r (fun y hy => h y (List.mem_cons_of_mem _ hy)); have h2 := h x (List.mem_cons_self ..); unfold Lib.joinTail at h1 ⊢; rw [List.map_cons, List.flatten_cons, List.length_append, List.length_append, List.length_cons, List.length_cons, List.length_nil, Nat.add_mul]; omega
theorem joinB_size {m : Nat} (l : List ByteArray) (h : ∀ x ∈ l, x.size ≤ m) : (joinB l).size ≤ l.length * (m + 1) := by
  have e : (joinB l).size = (Lib.join (l.map (·.data.toList)) [32]).length := rfl; rw [e]
  cases l with
  | nil => simp [Lib.join, List.intercalate]
  | cons x r =>
    rw [List.map_cons, Lib.join_cons, List.length_append, List.length_cons, Nat.add_mul]
    have h1 := joinTail_len (m := m) (r.map (·.data.toList)) (fun y hy => by
      obtain ⟨z, hz, rfl⟩ := List.mem_map.1 hy
      exact h z (List.mem_cons_of_mem _ hz))
    have h2 : x.data.toList.length ≤ m := h x (List.mem_cons_self ..); rw [List.length_map] at h1; omega
def lineB (kw : ByteArray) (X : List ByteArray) : ByteArray := joinB (kw :: X.take 20) ++ ⟨#[10]⟩
theorem join_size33 {kw : ByteArray} {X : List ByteArray} (hk : kw.size ≤ 5) (hX : ∀ x ∈ X, x.size ≤ 33) : (joinB (kw :: X.take 20)).size ≤ 714 := by
  have h := joinB_size (m := 33) (kw :: X.take 20) (fun x hx => by
    rcases List.mem_cons.1 hx with rfl | hx
    · omega
    · exact hX x (List.mem_of_mem_take hx))
  have : (kw :: X.take 20).length ≤ 21 := (by rw [List.length_cons, List.length_take]; omega); have h2 : (kw :: X.take 20).length * (33 + 1) ≤ 21 * 34 := Nat.mul_le_mul this (Nat.le_refl _); omega
theorem lineB_size {kw : ByteArray} {X : List ByteArray} (hk : kw.size ≤ 5) (hX : ∀ x ∈ X, x.size ≤ 33) : (lineB kw X).size ≤ 1000 := by
  have := join_size33 hk hX; unfold lineB; rw [ByteArray.size_append]; have : (⟨#[10]⟩ : ByteArray).size = 1 := rfl; omega
def frmT : Nat → ByteArray → List ByteArray → ByteArray
  | 0, kw, X => lineB kw X
  | f + 1, kw, X => if 20 < X.length then lineB kw X ++ frmT f kMo (X.drop 20) else lineB kw X
theorem frmT_last {f : Nat} {kw : ByteArray} {X : List ByteArray} (h : X.length ≤ 20) : frmT f kw X = lineB kw X := by
  cases f with
  | zero => rfl
  | succ f => rw [frmT, if_neg (by omega)]
def frmN (o : SpO) (r : RgV) : List ByteArray := r.l.map (fun i => (snm o)[i.toNat]?.getD ⟨#[]⟩) ++ r.k.map (fun i => (cnm o)[i.toNat]?.getD ⟨#[]⟩)
def frmX (o : SpO) (r : RgV) : ByteArray := frmT 5 kFr (frmN o r)
def prtX (o : SpO) (L : List RgV) : ByteArray := L.foldl (fun s r => s ++ frmX o r) ⟨#[]⟩
theorem prtX_succ {o : SpO} {L : List RgV} {k : Nat} {x : RgV} (h : L[k]? = some x) : prtX o (L.take (k + 1)) = prtX o (L.take k) ++ frmX o x := by
  unfold prtX; rw [List.take_add_one, h, List.foldl_append]; rfl
def frmK (o : SpO) (L : List RgV) (i : Nat) : Int := regE o (L[i]?.getD rg0)
def printE (o : SpO) (L : List RgV) : Int := if specE o = 0 then (if 500 < L.length then 3 else fstE (frmK o L) L.length 0) else specE o
def printX (o : SpO) (L : List RgV) : ByteArray := if printE o L = 0 then prtX o L else ⟨#[]⟩
theorem nms_size {o : SpO} (h : specE o = 0) : (∀ x ∈ snm o, x.size ≤ 33) ∧ ∀ x ∈ cnm o, x.size ≤ 33 := by
  obtain ⟨h1, h2, h3⟩ := specE_nm h; refine ⟨fun x hx => ?_, fun x hx => ?_⟩
  · obtain ⟨y, hy, rfl⟩ := List.mem_map.1 hx; have e1 := (nmB_size (h2 y hy).1).2
    have e2 : (o.ds[y.dv.toNat]?.getD dv0).nm.size ≤ 16 := by
      cases hd : o.ds[y.dv.toNat]? with
      | none => exact Nat.zero_le _
      | some d => exact (nmB_size (h1 d (List.mem_of_getElem? hd))).2
    unfold nmSt; rw [ByteArray.size_append, ByteArray.size_append]; have : (⟨#[64]⟩ : ByteArray).size = 1 := rfl; omega
  · obtain ⟨y, hy, rfl⟩ := List.mem_map.1 hx; have e1 := (nmB_size (h3 y hy)).2; show (⟨#[43]⟩ ++ y.nm).size ≤ 33; rw [ByteArray.size_append]; have : (⟨#[43]⟩ : ByteArray).size = 1 := rfl; omega
theorem getD_size {l : List ByteArray} (h : ∀ x ∈ l, x.size ≤ 33) (i : Nat) : (l[i]?.getD ⟨#[]⟩).size ≤ 33 := by
  cases hd : l[i]? with
  | none => exact Nat.zero_le _
  | some d => exact h d (List.mem_of_getElem? hd)
theorem frmN_size {o : SpO} (h : specE o = 0) (r : RgV) : ∀ x ∈ frmN o r, x.size ≤ 33 := by
  obtain ⟨h1, h2⟩ := nms_size h; intro x hx; rcases List.mem_append.1 hx with hx | hx
  · obtain ⟨i, _, rfl⟩ := List.mem_map.1 hx; exact getD_size h1 _
  · obtain ⟨i, _, rfl⟩ := List.mem_map.1 hx; exact getD_size h2 _
def dropA (A : Option Addr) (i : Nat) : Option Addr := A.map fun ad => ⟨ad.block, ad.off + i, none⟩
theorem SS.take {w : World} {A : Option Addr} {n m : Nat} {l : List ByteArray} (h : SS w A n l) (hm : m ≤ n) : SS w A m (l.take m) := by
  have hl := h.1; refine ⟨by rw [List.length_take]; omega, by rw [List.length_map, List.length_take]; omega, fun h0 => ?_⟩; obtain ⟨ad, e, hb, hc⟩ := h.2.2 (by omega); refine ⟨ad, e, hb, fun j u hu => hc j u ?_⟩; rw [List.map_take] at hu
  have hj : j < m := by
    have := (List.getElem?_eq_some_iff.1 hu).1; rw [List.length_take] at this; omega
  rw [List.getElem?_take_of_lt hj] at hu; exact hu
theorem OS.drop {w : World} {base : Nat} {A : Option Addr} {n c i : Nat} {l : List ByteArray} (h : OS w base A n c l) (hi : i ≤ n) : SS w (dropA A i) (n - i) (l.drop i) := by
  have hl := h.len; refine ⟨by rw [List.length_drop]; omega, by rw [List.length_map, List.length_drop]; omega, fun h0 => ?_⟩; obtain ⟨g, rfl, _, hb, hc⟩ := h.at_ (by omega); refine ⟨_, rfl, hb, fun j u hu => ?_⟩; rw [List.getElem?_map] at hu
  have hj : i + j < n := by
    cases hx : (l.drop i)[j]? with
    | none => rw [hx] at hu; cases hu
    | some d =>
      have := (List.getElem?_eq_some_iff.1 hx).1; rw [List.length_drop] at this; omega
  rw [List.getElem?_drop] at hu; have := hc (i + j) hj; rw [show (⟨g, 0 + i, none⟩ : Addr).add j = ⟨g, i + j, none⟩ by unfold Addr.add; split <;> simp_all, this]; rw [List.getElem?_eq_getElem (by omega)] at hu ⊢; exact hu
theorem OS.made (w : World) {base : Nat} (s : ByteArray) (hb : base ≤ w.heap.size) : OS (w.alloc (.cells #[.string s] 9)) base (some ⟨w.heap.size, 0, none⟩) 1 1 [s] :=
  ⟨rfl, .inr ⟨w.heap.size, 1, #[.string s], rfl, hb, Blk.new w _ _, Nat.le_refl _, by decide, rfl, rfl⟩⟩
structure PrS (wb W : World) (l : List (Nat × TypeId × Array Value)) (s : ByteArray) : Prop where
  lg : Lg wb W l
  bd : BD W wb.heap.size s
section
variable {wb W W' : World} {l : List (Nat × TypeId × Array Value)} {s : ByteArray}
theorem PrS.bl (h : PrS wb W l s) : Below wb.heap.size wb W := h.lg.bl
theorem PrS.at_ (h : PrS wb W l s) (k : Nat) {g : Nat} {t : TypeId} {cs : Array Value} (hk : l[k]? = some (g, t, cs)) : Blk W g t cs := h.lg.at_ k hk
theorem PrS.below (h : PrS wb W l s) (hb : Below W.heap.size W W') : PrS wb W' l s := ⟨h.lg.below hb, h.bd.below hb⟩
theorem PrS.new {g : Nat} {t : TypeId} {cs : Array Value} (h : PrS wb W l s) (zg : g = W.heap.size) (zm : Mv W.heap.size W W') (zb : Blk W' g t cs) : PrS wb W' ((g, t, cs) :: l) s :=
  ⟨h.lg.new zg zm zb, h.bd.below (below_mv (Below.refl _ _) zm (Nat.le_refl _) (Nat.le_refl _))⟩
theorem PrS.upd {g : Nat} {t t' : TypeId} {cs cs' : Array Value} (h : PrS wb W ((g, t, cs) :: l) s) (hm : Mv g W W') (zb : Blk W' g t' cs') (ht : t ≠ 5 := by decide) (hn : t ≠ 136 := by decide) : PrS wb W' ((g, t', cs') :: l) s :=
  ⟨h.lg.upd hm zb, h.bd.mv hm (h.at_ 0 rfl) ht hn⟩
theorem PrS.drop {p : Nat × TypeId × Array Value} (h : PrS wb W (p :: l) s) : PrS wb W l s := ⟨h.lg.drop, h.bd⟩
theorem PrS.app {A : Option Addr} {n c : Nat} {X : List ByteArray} (h : PrS wb W l s) (ho : OS W wb.heap.size A n c X) (hg : W.grownBy W' (Value.slice A n c).ownBlock) (ht : ∀ p ∈ l, 9 ≠ p.2.1) : PrS wb W' l s :=
  ⟨h.lg.grown hg (fun q hq => (ho.lt q hq).1) (fun p hp e => ho.ne_blk (h.lg.ld.all p hp) (ht p hp) e), h.bd.grown ho hg⟩
theorem PrS.wr {t : ByteArray} (h : PrS wb W l s) (hb : BD W' wb.heap.size t) (hbl : Below wb.heap.size W W') (hk : Lib.OthersKept 5 (some wb.heap.size) W W') (ht : ∀ p ∈ l, p.2.1 ≠ 5 ∧ p.2.1 ≠ 136) : PrS wb W' l t :=
  ⟨h.lg.kept h.bd hk hbl (Nat.le_refl _) ht, hb⟩
end
theorem alloc_bld (w : World) : (Instr.alloc 136 true (.tuple #[])).run Tryz.prog w = .ok (.pointer (some ⟨w.heap.size, 0, none⟩)) (w.alloc (.cells #[.pointer none, .slice none 0 0] 136)) := by kernel_rfl
theorem PrS.start {w w' : World} (zm : Mv w.heap.size w w') (zb : Blk w' w.heap.size 136 #[.pointer none, .slice none 0 0]) : PrS w w' [] ⟨#[]⟩ :=
  ⟨(Lg.nil w).below (below_mv (Below.refl _ _) zm (Nat.le_refl _) (Nat.le_refl _)), BD.new zb⟩
theorem SS.take20 {w : World} {A : Option Addr} {n : Nat} {l : List ByteArray} (h : SS w A n l) : SS w A (min (n : Int) 20).toNat (l.take 20) := by
  have h2 := h.take (m := (min (n : Int) 20).toNat) (by omega); rcases Nat.le_total n 20 with h0 | h0
  · rw [List.take_of_length_le (by rw [h.1]; omega)] at h2; rw [List.take_of_length_le (by rw [h.1]; omega)]; exact h2
  · rwa [show (min (n : Int) 20).toNat = 20 by omega] at h2 ⊢
theorem OS.drop0 {w : World} {base : Nat} {A : Option Addr} {n c : Nat} {l : List ByteArray} (h : OS w base A n c l) : A = dropA A 0 := by
  rcases h.2 with ⟨h0, _⟩ | ⟨g, cap, cur, e1, _⟩
  · injection h0 with h0 _ _
    subst h0; rfl
  · injection e1 with e1 _ _
    subst e1; rfl
def lenOf : Value → Nat
  | .slice _ n _ => n
  | _ => 0
theorem ne_str_reg : 9 ≠ 45 := by decide
theorem crPrint_any (o : SpO) (T : Option Addr) (n c : Nat) (L : List RgV) (w : World) (hM : SpM w o) (hF : SpF o) (hT : TbM w T n c L) :
    Calls Tryz.prog 34 #[.agg #[.slice o.A1 o.n1 o.c1, .slice o.A2 o.n2 o.c2, .slice o.A3 o.n3 o.c3, .slice o.A4 o.n4 o.c4], .slice T n c] w fun e w' => e = .returned (.tuple #[.string (printX o L), .int .i64 (printE o L)]) ∧ Below w.heap.size w w' := by
  have HE : Sl (printE o L = if specE o = 0 then (if 500 < n then 3 else fstE (frmK o L) n 0) else specE o) := ⟨by rw [← hT.row.len]; rfl⟩; have HPX : Sl (printX o L = if printE o L = 0 then prtX o L else ⟨#[]⟩) := ⟨rfl⟩; obtain ⟨r, hr⟩ : ∃ r, printE o L = r := ⟨_, rfl⟩; rw [hr] at HE HPX ⊢; have HM : Sl _ := ⟨hM⟩; have HF : Sl _ := ⟨hF⟩; have HT : Sl _ := ⟨hT⟩; have HD : Sl (Lg w w []) := ⟨Lg.nil w⟩; have HSC : Sl _ := ⟨fun (W : World) (hW : Below w.heap.size w W) => speccheck_any o W (hM.below hW) hF⟩; obtain ⟨s, hs⟩ : ∃ s, specE o = s := ⟨_, rfl⟩; have HS0 : Sl _ := ⟨hs⟩; unfold SpecR at HSC; rw [hs] at HE HSC; have hcap := hT.cap; unfold maxLen at hcap; have HCAP : Sl _ := ⟨hcap⟩; clear hM hF hT hr hs hcap; go_enter Tryz.func34, Tryz.ntmps34
  go_upto_region 1 with ((with_reducible show wpList _ _ _ _ _ _); first
    | (refine wpList_box_new 2 rfl rfl 33 (.tmp 0) rfl #[.slice o.A1 o.n1 o.c1, .slice o.A2 o.n2 o.c2, .slice o.A3 o.n3 o.c3, .slice o.A4 o.n4 o.c4] rfl (fun _ => by kernel_rfl) ?_; rintro ws gs zg zm zs zb; replace HD : Sl _ := ⟨HD.out.new zg zm zb⟩; clear zg zm zs zb))
  have s0 := (HD.out.at_ 0 rfl).cell 0; have s1 := (HD.out.at_ 0 rfl).cell 1; have s2 := (HD.out.at_ 0 rfl).cell 2; have s3 := (HD.out.at_ 0 rfl).cell 3; simp at s0 s1 s2 s3; go_wp2_with fail; refine (HSC.out _ HD.out.bl).mono ?_; rintro e w1 ⟨⟨a1, a2, a3, rfl⟩, hb⟩; replace HD : Sl _ := ⟨HD.out.below hb⟩; clear HSC hb s0 s1 s2 s3
  go_upto_region 2 with ((with_reducible show wpList _ _ _ _ _ _); first
    | (refine wpList_alloc_new 6 rfl rfl 72 rfl #[.int .i64 0, .int .i64 0, .int .i64 0] alloc_fault ?_; rintro w2 gf zg zm zs zb; replace HD : Sl _ := ⟨HD.out.new zg zm zb⟩; clear zg zm zs zb)
    | (refine wpList_store_whole rfl 72 (.tmp 6) (.tmp 23) rfl gf #[.int .i64 a1, .int .i64 a2, .int .i64 a3] rfl rfl 72 _ (HD.out.at_ 0 rfl) rfl (by kernel_rfl) (by simp [Value.oneCell']) ?_; rintro w3 zm zs zb; replace HD : Sl _ := ⟨HD.out.upd zm zb⟩; clear zm zs zb))
  replace HD : Sl _ := ⟨HD.out.drop⟩
  by_cases hs0 : s = 0
  · subst hs0; rw [if_pos rfl] at HE
    by_cases h500 : 500 < n
    · have q1 : decide ((500 : Int) < (n : Int)) = true := decide_eq_true (by omega); have q2 : (500 : Int) < (n : Int) := (by omega); have HR : Sl (r = 3) := ⟨by rw [HE.out, if_pos h500]⟩; have HX : Sl (printX o L = ⟨#[]⟩) := ⟨by rw [HPX.out, if_neg (by rw [HR.out]; decide)]⟩; clear h500; go_wp2_with fail; go_ret2; exact ⟨by rw [HR.out, HX.out]; rfl, HD.out.bl⟩
    · have q1 : decide ((500 : Int) < (n : Int)) = false := decide_eq_false (by omega); have q2 : ¬ (500 : Int) < (n : Int) := (by omega); rw [if_neg h500] at HE; have HN5 : Sl (n ≤ 500) := ⟨by omega⟩; clear h500; have s0 := (HD.out.at_ 0 rfl).cell 0; have s1 := (HD.out.at_ 0 rfl).cell 1; have s2 := (HD.out.at_ 0 rfl).cell 2; have s3 := (HD.out.at_ 0 rfl).cell 3; simp at s0 s1 s2 s3; go_wp2_with fail; refine (names_any o _ (HM.out.below HD.out.bl) HF.out HS0.out).mono ?_; rintro e wb ⟨⟨A, cA, B, cB, rfl, z1, z2⟩, hb⟩; replace HD : Sl _ := ⟨HD.out.below hb⟩; have HN3 : Sl _ := ⟨z1⟩; have HN4 : Sl _ := ⟨z2⟩; clear hb s0 s1 s2 s3 q1 q2 z1 z2; go_wp2_with ((with_reducible show wpList _ _ _ _ _ _); (refine wpList_alloc_new 10 rfl rfl 136 rfl #[.pointer none, .slice none 0 0] alloc_bld ?_; rintro wv b zg zm zs zb; subst zg; have HS : Sl _ := ⟨HD.out⟩; have HP : Sl _ := ⟨PrS.start zm zb⟩; clear zm zs zb)); clear HD; have HPA : Sl (w.heap.size ≤ wb.heap.size) := ⟨HS.out.bl.size⟩; have HSZ : Sl _ := ⟨frmN_size HS0.out⟩; have HBD : Sl _ := ⟨specE_bd HS0.out⟩
      go_loopw [38] (fun s38 wr => ∃ (k : Nat) (s : ByteArray), k ≤ n ∧ s38 = .int .i64 k ∧ Sl (PrS wb wr [] s ∧ s = prtX o (L.take k) ∧ s.size ≤ 10000 * k) ∧ Sl (fstE (frmK o L) (n - k) k = r)) (fun s38 _ => n - (RowKit.intOf s38).toNat)
      case atStart => exact ⟨0, _, Nat.zero_le _, rfl, ⟨HP.out, rfl, Nat.zero_le _⟩, ⟨HE.out.symm⟩⟩
      case round =>
        clear HP HE; obtain ⟨k, s, hk, rfl, HK, HKE⟩ := hrel; have HD : Sl _ := ⟨HK.out.1⟩; have HTX : Sl _ := ⟨HK.out.2⟩; clear HK
        by_cases hkn : k < n
        · have hkI : decide ((k : Int) < (n : Int)) = true := decide_eq_true (by omega); have hkI2 : (k : Int) < (n : Int) := (by omega); have hk5 : (k : Int) ≤ 500 := (by have := HN5.out; omega); have hn5 : (n : Int) ≤ 500 := (by have := HN5.out; omega); have HST : Sl (r = if frmK o L k = 0 then fstE (frmK o L) (n - (k + 1)) (k + 1) else frmK o L k) := ⟨by rw [← HKE.out, show n - k = (n - (k + 1)) + 1 by omega]; rfl⟩; have HWW : Sl (∀ W, Below wb.heap.size wb W → Below w.heap.size w W) := ⟨fun W hW => HS.out.bl.trans (hW.mono HPA.out)⟩; obtain ⟨gb, oo, x, hA, hgb, hx, x0, x1⟩ := (HT.out.below (HWW.out _ HD.out.bl)).at_ hkn; have HFR : Sl (frmK o L k = regE o x) := ⟨by unfold frmK; rw [hx]; rfl⟩; have HXN : Sl (prtX o (L.take (k + 1)) = s ++ frmX o x) := ⟨by rw [prtX_succ hx, ← HTX.out.1]⟩; have HXM : Sl _ := ⟨HT.out.all x (List.mem_of_getElem? hx)⟩; have HRG : Sl _ := ⟨fun (W : World) (hW : Below w.heap.size w W) => registration_any o x W ((HT.out.all x (List.mem_of_getElem? hx)).below hW) HF.out⟩; obtain ⟨e1, he1⟩ : ∃ e1, regE o x = e1 := ⟨_, rfl⟩; have HE1 : Sl _ := ⟨he1⟩; rw [he1] at HFR HRG; rw [hA]; have HA : Sl _ := ⟨hA⟩; clear hA hx he1 HKE
          go_upto_region 11 with ((with_reducible show wpList _ _ _ _ _ _); first
            | (refine wpList_alloc_new 12 rfl rfl 45 rfl #[.slice none 0 0, .slice none 0 0] alloc_reg ?_; rintro w4 gx zg zm zs zb; replace HD : Sl _ := ⟨HD.out.new zg zm zb⟩; clear zg zm zs zb)
            | (refine wpList_store_whole rfl 45 (.tmp 12) (.tmp 41) rfl gx #[.slice x.A x.n x.c, .slice x.B x.m x.d] rfl rfl 45 _ (HD.out.at_ 0 rfl) rfl (by kernel_rfl) (by simp [Value.oneCell']) ?_; rintro w5 zm zs zb; replace HD : Sl _ := ⟨HD.out.upd zm zb⟩; clear zm zs zb))
          have HS2 : Sl _ := ⟨HS.out.below HD.out.bl⟩; have s0 := (HS2.out.at_ 0 rfl).cell 0; have s1 := (HS2.out.at_ 0 rfl).cell 1; have s2 := (HS2.out.at_ 0 rfl).cell 2; have s3 := (HS2.out.at_ 0 rfl).cell 3; have y0 := (HD.out.at_ 0 rfl).cell 0; have y1 := (HD.out.at_ 0 rfl).cell 1; simp at s0 s1 s2 s3 y0 y1; clear x0 x1; go_wp2_with fail; refine (HRG.out _ (HWW.out _ HD.out.bl)).mono ?_; rintro e w6 ⟨rfl, hb⟩; replace HD : Sl _ := ⟨HD.out.below hb⟩; clear HRG hb s0 s1 s2 s3 y0 y1 HS2
          by_cases he0 : e1 = 0
          · subst he0; have HFN : Sl (fstE (frmK o L) (n - (k + 1)) (k + 1) = r) := ⟨by rw [HST.out, if_pos HFR.out]⟩; have hr1 := regE_ok HE1.out; have HR1 : Sl _ := ⟨hr1.1⟩; have HR2 : Sl _ := ⟨hr1.2⟩
            have HLN : Sl (x.n ≤ 80 ∧ x.m ≤ 24) := ⟨by
              have l1 := drwE_len hr1.1; have l2 := drwE_len hr1.2; have := HXM.out.s.1; have := HXM.out.c.1; have := HBD.out
              omega⟩
            have y0 := (HD.out.at_ 0 rfl).cell 0; simp at y0; clear HST hr1 HFR HE1; have HXL : Sl (x.l.length = x.n ∧ x.k.length = x.m) := ⟨HXM.out.s.1, HXM.out.c.1⟩; go_wp2_with fail; clear y0; obtain ⟨XC, hXC⟩ : ∃ XC, (#[.slice x.A x.n x.c, .slice x.B x.m x.d] : Array Value) = XC := ⟨_, rfl⟩; have HXC : Sl _ := ⟨hXC⟩; rw [hXC] at HD; clear hXC; obtain ⟨FL, hFL⟩ : ∃ FL, x.l.map (fun i => (snm o)[i.toNat]?.getD ⟨#[]⟩) = FL := ⟨_, rfl⟩; have HFL : Sl _ := ⟨hFL⟩; have HFLN : Sl (FL.length = x.n) := ⟨by rw [← hFL, List.length_map]; exact HXL.out.1⟩; clear hFL
            go_loopw [14, 51] (fun s14 s51 wr => ∃ (j : Nat) (A' : Option Addr) (c' : Nat), j ≤ x.n ∧ s14 = .slice A' j c' ∧ s51 = .int .i64 j ∧ Sl (PrS wb wr [(gx, 45, XC)] s ∧ OS wr wb.heap.size A' j c' (FL.take j))) (fun _ s51 _ => x.n - (RowKit.intOf s51).toNat)
            case atStart => exact ⟨0, _, _, Nat.zero_le _, rfl, rfl, ⟨HD.out, OS.nil _ _⟩⟩
            case round =>
              clear HD ; obtain ⟨j, A1, c1, hj, rfl, rfl, HK⟩ := hrel; have HD : Sl _ := ⟨HK.out.1⟩; have HO : Sl _ := ⟨HK.out.2⟩; clear HK; have hxb : (x.n : Int) ≤ 80 := (by have := HLN.out; omega)
              by_cases hjn : j < x.n
              · have hjI : decide ((j : Int) < (x.n : Int)) = true := decide_eq_true (by omega); have hjI2 : (j : Int) < (x.n : Int) := (by omega); obtain ⟨ad, hA2, hab, k1⟩ := (HXM.out.s.below (HWW.out _ HD.out.bl)).cell (j := j) hjn; have hz := (drwE_ok HR1.out (k := j) (by rw [HXL.out.1]; exact hjn)).1
                have HTK : Sl (FL.take (j + 1) = FL.take j ++ [(snm o)[(gt x.l j).toNat]?.getD ⟨#[]⟩]) := ⟨by
                  rw [List.take_add_one, ← HFL.out, List.getElem?_map, List.getElem?_eq_getElem (by rw [HXL.out.1]; exact hjn)]; rw [show gt x.l j = x.l[j]'(by rw [HXL.out.1]; exact hjn) by rw [gt, List.getElem?_eq_getElem (by rw [HXL.out.1]; exact hjn)]; rfl]
                  rfl⟩
                obtain ⟨z, hzz⟩ : ∃ z, gt x.l j = z := ⟨_, rfl⟩; rw [hzz] at hz HTK k1; clear hzz; obtain ⟨zn, rfl⟩ := Int.eq_ofNat_of_zero_le hz.1; have hzI0 : (0 : Int) ≤ (zn : Int) := hz.1; have hzI : (zn : Int) < (o.n3 : Int) := hz.2; rw [Int.toNat_natCast] at HTK; obtain ⟨g3, hA3, _, hg3, hc3⟩ := (HN3.out.below HD.out.bl).at_ (show 0 < o.n3 by omega); have k3 := hc3 zn (by omega); obtain ⟨nm, hnm⟩ : ∃ nm, (snm o)[zn]?.getD ⟨#[]⟩ = nm := ⟨_, rfl⟩; rw [hnm] at k3 HTK; rw [hA2, hA3]; clear hA2 hA3 hz hc3 hnm; have HLJ : Sl (j + 1 ≤ 1000000) := ⟨by have := HLN.out; omega⟩; go_wp2_with (at_builtin; go_loud (refine wpList_append_os rfl (.tmp 55) (.tmp 60) rfl wb.heap.size A1 j c1 (FL.take j) rfl (HO.out.alloc _) (some ⟨wr.heap.size, 0, none⟩) 1 1 [nm] rfl (SS.made _ _ _) HLJ.out (Nat.le_trans HD.out.bl.size (by simp)) ?_); rintro A2' c2' w2 zo zg zt; have HZ : Sl _ := ⟨And.intro zo zg⟩; clear zo zg zt); have hD2 : PrS wb w2 [(gx, 45, XC)] s := (HD.out.below ((Below.refl _ _).alloc (Nat.le_refl _) _)).app (HO.out.alloc _) HZ.out.2 (by intro q hq; simp only [List.mem_cons, List.not_mem_nil, or_false] at hq; subst hq; exact ne_str_reg); exact ⟨⟨j + 1, A2', c2', by omega, rfl, by go_num, ⟨hD2, by rw [HTK.out]; exact HZ.out.1⟩⟩, by simp [RowKit.intOf]; omega⟩
              · obtain rfl : j = x.n := (by omega); rw [show FL.take x.n = FL from List.take_of_length_le (Nat.le_of_eq HFLN.out)] at HO; clear hj hjn; have y1 := (HD.out.at_ 0 rfl).cell 1; rw [← HXC.out] at y1; simp at y1; go_wp2_with fail; clear y1; obtain ⟨FK, hFK⟩ : ∃ FK, x.k.map (fun i => (cnm o)[i.toNat]?.getD ⟨#[]⟩) = FK := ⟨_, rfl⟩; have HFK : Sl _ := ⟨hFK⟩; have HFKN : Sl (FK.length = x.m) := ⟨by rw [← hFK, List.length_map]; exact HXL.out.2⟩; clear hFK
                go_loopw [14, 66] (fun s14 s66 wr => ∃ (j : Nat) (A' : Option Addr) (c' : Nat), j ≤ x.m ∧ s14 = .slice A' (x.n + j) c' ∧ s66 = .int .i64 j ∧ Sl (PrS wb wr [(gx, 45, XC)] s ∧ OS wr wb.heap.size A' (x.n + j) c' (FL ++ FK.take j))) (fun _ s66 _ => x.m - (RowKit.intOf s66).toNat)
                case atStart => exact ⟨0, _, _, Nat.zero_le _, rfl, rfl, ⟨HD.out, by rw [List.take_zero, List.append_nil]; exact HO.out⟩⟩
                case round =>
                  clear HD HO; obtain ⟨j, A2, c2, hj, rfl, rfl, HK⟩ := hrel; have HD : Sl _ := ⟨HK.out.1⟩; have HO : Sl _ := ⟨HK.out.2⟩; clear HK; have hxb : (x.m : Int) ≤ 80 := (by have := HLN.out; omega)
                  by_cases hjn : j < x.m
                  · have hjI : decide ((j : Int) < (x.m : Int)) = true := decide_eq_true (by omega); have hjI2 : (j : Int) < (x.m : Int) := (by omega); obtain ⟨ad, hA2, hab, k1⟩ := (HXM.out.c.below (HWW.out _ HD.out.bl)).cell (j := j) hjn; have hz := (drwE_ok HR2.out (k := j) (by rw [HXL.out.2]; exact hjn)).1
                    have HTK : Sl (FK.take (j + 1) = FK.take j ++ [(cnm o)[(gt x.k j).toNat]?.getD ⟨#[]⟩]) := ⟨by
                      rw [List.take_add_one, ← HFK.out, List.getElem?_map, List.getElem?_eq_getElem (by rw [HXL.out.2]; exact hjn)]; rw [show gt x.k j = x.k[j]'(by rw [HXL.out.2]; exact hjn) by rw [gt, List.getElem?_eq_getElem (by rw [HXL.out.2]; exact hjn)]; rfl]
                      rfl⟩
                    obtain ⟨z, hzz⟩ : ∃ z, gt x.k j = z := ⟨_, rfl⟩; rw [hzz] at hz HTK k1; clear hzz; obtain ⟨zn, rfl⟩ := Int.eq_ofNat_of_zero_le hz.1; have hzI0 : (0 : Int) ≤ (zn : Int) := hz.1; have hzI : (zn : Int) < (o.n4 : Int) := hz.2; rw [Int.toNat_natCast] at HTK; obtain ⟨g3, hA3, _, hg3, hc3⟩ := (HN4.out.below HD.out.bl).at_ (show 0 < o.n4 by omega); have k3 := hc3 zn (by omega); obtain ⟨nm, hnm⟩ : ∃ nm, (cnm o)[zn]?.getD ⟨#[]⟩ = nm := ⟨_, rfl⟩; rw [hnm] at k3 HTK; rw [hA2, hA3]; clear hA2 hA3 hz hc3 hnm; have HLJ : Sl ((x.n + j) + 1 ≤ 1000000) := ⟨by have := HLN.out; omega⟩; go_wp2_with (at_builtin; go_loud (refine wpList_append_os rfl (.tmp 70) (.tmp 75) rfl wb.heap.size A2 (x.n + j) c2 (FL ++ FK.take j) rfl (HO.out.alloc _) (some ⟨wr.heap.size, 0, none⟩) 1 1 [nm] rfl (SS.made _ _ _) HLJ.out (Nat.le_trans HD.out.bl.size (by simp)) ?_); rintro A2' c2' w2 zo zg zt; have HZ : Sl _ := ⟨And.intro zo zg⟩; clear zo zg zt); have hD2 : PrS wb w2 [(gx, 45, XC)] s := (HD.out.below ((Below.refl _ _).alloc (Nat.le_refl _) _)).app (HO.out.alloc _) HZ.out.2 (by intro q hq; simp only [List.mem_cons, List.not_mem_nil, or_false] at hq; subst hq; exact ne_str_reg); exact ⟨⟨j + 1, A2', c2', by omega, rfl, by go_num, ⟨hD2, by rw [HTK.out, ← List.append_assoc]; exact HZ.out.1⟩⟩, by simp [RowKit.intOf]; omega⟩
                  · obtain rfl : j = x.m := (by omega); rw [show FK.take x.m = FK from List.take_of_length_le (Nat.le_of_eq HFKN.out)] at HO; clear hj hjn; have HFN2 : Sl (frmN o x = FL ++ FK) := ⟨by rw [← HFL.out, ← HFK.out]; rfl⟩; obtain ⟨X, hX⟩ : ∃ X, FL ++ FK = X := ⟨_, rfl⟩; obtain ⟨N, hN⟩ : ∃ N, x.n + x.m = N := ⟨_, rfl⟩; rw [hX] at HO HFN2; rw [hN] at HO ⊢; have HN1 : Sl (N ≤ 104) := ⟨by have := HLN.out; omega⟩; have HXS : Sl (∀ y ∈ X, y.size ≤ 33) := ⟨by rw [← HFN2.out]; exact HSZ.out x⟩; replace HD : Sl _ := ⟨HD.out.drop⟩; have hN104 : (N : Int) ≤ 104 := (by have := HN1.out; omega); have HAA : Sl (X.length = N ∧ N ≤ c2 ∧ c2 ≤ maxLen) := ⟨HO.out.len, HO.out.cap⟩; have hNc : (N : Int) ≤ (c2 : Int) := (by have := HAA.out; omega); have hNc2 : N ≤ c2 := HAA.out.2.1; have hc2m : (c2 : Int) ≤ 9223372036854775807 := (by have := HAA.out.2.2; unfold maxLen at this; omega); clear hX hN HFL HFK HFLN HFKN HXC; have HM20 : Sl ((min (N : Int) 20).toNat ≤ 20) := ⟨by omega⟩; obtain ⟨m, hm⟩ : ∃ m, (min (N : Int) 20).toNat = m := ⟨_, rfl⟩; have HMM : Sl _ := ⟨hm⟩; rw [hm] at HM20; go_wp2_with (at_builtin; (try rw [hm]); go_loud (refine wpList_append_os rfl (.tmp 78) (.tmp 83) rfl wb.heap.size (some ⟨wr.heap.size, 0, none⟩) 1 1 [kFr] rfl (OS.made _ _ HD.out.bl.size) A2 m c2 (X.take 20) rfl (by rw [← hm]; exact (HO.out.alloc _).ss.take20) (by have := HM20.out; omega) (Nat.le_trans HD.out.bl.size (by simp)) ?_); rintro C c9 w7 zo zg zt; have HZ : Sl _ := ⟨And.intro zo zg⟩; clear zo zg zt); replace HD : Sl _ := ⟨(HD.out.below ((Below.refl _ _).alloc (Nat.le_refl _) _)).app (OS.made _ _ HD.out.bl.size) HZ.out.2 (by intro q hq; cases hq)⟩
                    replace HO : Sl _ := ⟨(HO.out.alloc (.cells #[.string kFr] 9)).grown HZ.out.2 (fun q hq e => by
                      have h1 := (HO.out.lt q hq).2; have e2 : some wr.heap.size = some q := e; injection e2 with e2
                      omega)⟩
                    have HW0 : Sl (s ++ frmX o x = s ++ frmT (5 - 0) kFr (X.drop (20 * 0))) := ⟨by unfold frmX; rw [HFN2.out]; rfl⟩; have HC : Sl (OS w7 wb.heap.size C (1 + (min (N : Int) 20).toNat) c9 (kFr :: (X.drop (20 * 0)).take 20)) := ⟨by rw [hm]; exact HZ.out.1⟩; have hmS : Value.slice C (1 + m) c9 = .slice C (1 + (min (N : Int) 20).toNat) c9 := (by rw [hm]); rw [hmS]; have HTS : Sl (s.size ≤ 10000 * k) := ⟨HTX.out.2⟩; clear hm hmS HZ HMM HM20 HFN2
                    go_loopw [14, 19] (fun s14 s19 wr => ∃ (i M : Nat) (A4 C : Option Addr) (c4 c9 : Nat) (kw t : ByteArray), M + 20 * i = N ∧ s14 = .slice A4 M c4 ∧ s19 = .slice C (1 + (min (M : Int) 20).toNat) c9 ∧ Sl (PrS wb wr [] t ∧ OS wr wb.heap.size A2 N c2 X ∧ OS wr wb.heap.size C (1 + (min (M : Int) 20).toNat) c9 (kw :: (X.drop (20 * i)).take 20)) ∧ Sl (A4 = dropA A2 (20 * i) ∧ M ≤ c4 ∧ c4 ≤ maxLen ∧ kw.size ≤ 5 ∧ t ++ frmT (5 - i) kw (X.drop (20 * i)) = s ++ frmX o x ∧ t.size ≤ 10000 * k + 1000 * i)) (fun s14 _ _ => lenOf s14)
                    case atStart => exact ⟨0, N, _, C, c2, c9, kFr, s, by omega, rfl, rfl, ⟨HD.out, HO.out, HC.out⟩, ⟨HO.out.drop0, HAA.out.2.1, HAA.out.2.2, by decide, HW0.out.symm, by have := HTS.out; omega⟩⟩
                    case round =>
                      clear HD HO HC HW0 HTS; obtain ⟨i, M, A4, C, c4, c9, kw, t, hM, rfl, rfl, HK, HI⟩ := hrel; have HD : Sl _ := ⟨HK.out.1⟩; have HO : Sl _ := ⟨HK.out.2.1⟩; have HC : Sl _ := ⟨HK.out.2.2⟩; clear HK; have HML : Sl ((X.drop (20 * i)).length = M ∧ M + 20 * i = N) := ⟨by rw [List.length_drop, HAA.out.1]; omega, hM⟩; have HYS : Sl (∀ y ∈ X.drop (20 * i), y.size ≤ 33) := ⟨fun y hy => HXS.out y (List.mem_of_mem_drop hy)⟩; have HJS : Sl ((joinB (kw :: (X.drop (20 * i)).take 20)).size ≤ 714 ∧ (lineB kw (X.drop (20 * i))).size ≤ 1000) := ⟨join_size33 HI.out.2.2.2.1 HYS.out, lineB_size HI.out.2.2.2.1 HYS.out⟩; have HLB : Sl (lineB kw (X.drop (20 * i)) = joinB (kw :: (X.drop (20 * i)).take 20) ++ ⟨#[10]⟩) := ⟨rfl⟩; obtain ⟨jb, hjb⟩ : ∃ jb, joinB (kw :: (X.drop (20 * i)).take 20) = jb := ⟨_, rfl⟩; have HJB : Sl _ := ⟨hjb⟩; rw [hjb] at HJS HLB; clear hjb; have hM104 : (M : Int) ≤ 104 := (by have := HN1.out; omega); have HCN : Sl (1 + (min (M : Int) 20).toNat ≤ 1000000) := ⟨by omega⟩; have hjs : jb.size ≤ 714 := HJS.out.1; have h10 : (⟨#[10]⟩ : ByteArray).size = 1 := rfl
                      by_cases p20 : 20 < M
                      · have p1 : decide ((20 : Int) < (M : Int)) = true := decide_eq_true (by omega); have p2 : (20 : Int) < (M : Int) := (by omega); obtain ⟨f, hf⟩ : ∃ f, 5 - i = f + 1 := ⟨4 - i, by have := HN1.out; omega⟩; have HF1 : Sl (5 - (i + 1) = f) := ⟨by omega⟩
                        have HFT : Sl ((t ++ lineB kw (X.drop (20 * i))) ++ frmT f kMo (X.drop (20 * (i + 1))) = s ++ frmX o x) := ⟨by
                          rw [← HI.out.2.2.2.2.1, hf, frmT, if_pos (by rw [HML.out.1]; exact p20), List.drop_drop, ByteArray.append_assoc]
                          rfl⟩
                        have HCC : Sl ((M : Int) ≤ (c4 : Int) ∧ (c4 : Int) ≤ 9223372036854775807) := ⟨by have := HI.out.2.1; have := HI.out.2.2.1; unfold maxLen at this; omega⟩; clear hf hM; go_wp2_with fail; refine (join_any _ _ _ _ _ _ HC.out HCN.out (by rw [HJB.out]; omega)).mono ?_; rintro e w8 ⟨rfl, hb⟩; replace HD : Sl _ := ⟨HD.out.below hb⟩; replace HO : Sl _ := ⟨HO.out.below hb⟩; rw [HJB.out]; clear hb HC; go_wp2_with fail; rw [← HLB.out]; refine (wstr_any _ _ _ _ HD.out.bd (by have := HI.out.2.2.2.2.2; have := HJS.out.2; have := HN5.out; have := HML.out.2; have := HN1.out; omega)).mono ?_; rintro e w9 ⟨⟨v, rfl⟩, z1, z2, z3⟩; replace HO : Sl _ := ⟨HO.out.kept HD.out.bd z3⟩; replace HD : Sl _ := ⟨HD.out.wr z1 z2 z3 (by intro q hq; cases hq)⟩; clear z1 z2 z3; obtain ⟨g4, hA4, _, hg4, _⟩ := HO.out.at_ (show 0 < N by have := HML.out.2; omega); have HA4 : Sl (A4 = some ⟨g4, 20 * i, none⟩) := ⟨by rw [HI.out.1, hA4]; exact congrArg (fun z => some (⟨g4, z, none⟩ : Addr)) (Nat.zero_add _)⟩; rw [HA4.out]; have hcc1 := HCC.out.1; have hcc2 := HCC.out.2
                        have HDR : Sl (∀ W, OS W wb.heap.size A2 N c2 X → SS W (some ⟨g4, 20 * i + 20, none⟩) (M - 20) (X.drop (20 * i + 20))) := ⟨fun W h => by
                          have h1 := h.drop (i := 20 * i + 20) (by have := HML.out.2; omega); rw [hA4, show N - (20 * i + 20) = M - 20 by have := HML.out.2; omega, show dropA (some ⟨g4, 0, none⟩) (20 * i + 20) = some ⟨g4, 20 * i + 20, none⟩ from congrArg (fun z => some (⟨g4, z, none⟩ : Addr)) (Nat.zero_add _)] at h1
                          exact h1⟩
                        have HDA : Sl (some ⟨g4, 20 * i + 20, none⟩ = dropA A2 (20 * (i + 1))) := ⟨by rw [hA4]; exact (congrArg (fun z => some (⟨g4, z, none⟩ : Addr)) (Nat.zero_add _)).symm⟩; clear hA4 hg4; have HM2 : Sl ((min ((M - 20 : Nat) : Int) 20).toNat ≤ 20) := ⟨by omega⟩; go_wp2_with (at_builtin; go_loud (refine wpList_append_os rfl (.tmp 94) (.tmp 99) rfl wb.heap.size (some ⟨w9.heap.size, 0, none⟩) 1 1 [kMo] rfl (OS.made _ _ HD.out.bl.size) (some ⟨g4, 20 * i + 20, none⟩) (min ((M - 20 : Nat) : Int) 20).toNat (c4 - 20) ((X.drop (20 * i + 20)).take 20) rfl (HDR.out _ (HO.out.alloc _)).take20 (by have := HM2.out; omega) (Nat.le_trans HD.out.bl.size (by simp)) ?_); rintro C2 c9' w10 zo zg zt; have HZ : Sl _ := ⟨And.intro zo zg⟩; clear zo zg zt); replace HD : Sl _ := ⟨(HD.out.below ((Below.refl _ _).alloc (Nat.le_refl _) _)).app (OS.made _ _ HD.out.bl.size) HZ.out.2 (by intro q hq; cases hq)⟩
                        replace HO : Sl _ := ⟨(HO.out.alloc (.cells #[.string kMo] 9)).grown HZ.out.2 (fun q hq e => by
                          have h1 := (HO.out.lt q hq).2; have e2 : some w9.heap.size = some q := e; injection e2 with e2
                          omega)⟩
                        refine ⟨⟨i + 1, M - 20, _, C2, c4 - 20, c9', kMo, _, by have := HML.out.2; omega, rfl, rfl, ⟨HD.out, HO.out, HZ.out.1⟩, ⟨HDA.out, by have := HI.out.2.1; omega, by have := HI.out.2.2.1; omega, by decide, by rw [HF1.out]; exact HFT.out, ?_⟩⟩, by simp [lenOf]; omega⟩; rw [ByteArray.size_append]; have := HI.out.2.2.2.2.2; have := HJS.out.2; omega
                      · have p1 : decide ((20 : Int) < (M : Int)) = false := decide_eq_false (by omega); have p2 : ¬ (20 : Int) < (M : Int) := (by omega)
                        have HFT : Sl (t ++ lineB kw (X.drop (20 * i)) = s ++ frmX o x) := ⟨by
                          rw [← HI.out.2.2.2.2.1, frmT_last (by rw [HML.out.1]; omega)]⟩
                        have HSZ2 : Sl ((s ++ frmX o x).size ≤ 10000 * (k + 1)) := ⟨by
                          rw [← HFT.out, ByteArray.size_append]; have := HI.out.2.2.2.2.2; have := HJS.out.2; have := HN1.out
                          omega⟩
                        go_wp2_with fail; refine (join_any _ _ _ _ _ _ HC.out HCN.out (by rw [HJB.out]; omega)).mono ?_; rintro e w8 ⟨rfl, hb⟩; replace HD : Sl _ := ⟨HD.out.below hb⟩; rw [HJB.out]; clear hb HC HO; go_wp2_with fail; rw [← HLB.out]; refine (wstr_any _ _ _ _ HD.out.bd (by have := HI.out.2.2.2.2.2; have := HJS.out.2; have := HN5.out; have := HML.out.2; have := HN1.out; omega)).mono ?_; rintro e w9 ⟨⟨v, rfl⟩, z1, z2, z3⟩; replace HD : Sl _ := ⟨HD.out.wr z1 z2 z3 (by intro q hq; cases hq)⟩; rw [HFT.out] at HD; clear z1 z2 z3; go_wp2_with fail; exact ⟨⟨k + 1, _, by omega, by go_num, ⟨HD.out, HXN.out.symm, HSZ2.out⟩, HFN⟩, by simp [RowKit.intOf]; omega⟩
          · have q0 : (e1 != 0) = true := (by rw [bne_iff_ne]; exact he0); have HR : Sl (r = e1) := ⟨by rw [HST.out, if_neg (by rw [HFR.out]; exact he0), HFR.out]⟩; have HX : Sl (printX o L = ⟨#[]⟩) := ⟨by rw [HPX.out, if_neg (by rw [HR.out]; exact he0)]⟩; clear he0; go_wp2_with fail
            (try simp only [Exit.inBlock, Exit.then])
            go_ret2; exact ⟨by rw [HR.out, HX.out]; rfl, HWW.out _ HD.out.bl⟩
        · obtain rfl : k = n := (by omega); have HR : Sl (r = 0) := ⟨by rw [← HKE.out, Nat.sub_self]; rfl⟩; have HX : Sl (printX o L = s) := ⟨by rw [HPX.out, if_pos HR.out, HTX.out.1, List.take_of_length_le (by rw [HT.out.row.len]; exact Nat.le_refl _)]⟩; go_wp2_with fail; refine (bstr_any _ _ _ HD.out.bd).mono ?_; rintro e w6 ⟨rfl, hb⟩; go_wp2_with fail; go_ret2; exact ⟨by rw [HR.out, HX.out]; rfl, (HS.out.bl.trans (HD.out.bl.mono HPA.out)).trans (hb.mono HPA.out)⟩
  · rw [if_neg hs0] at HE; have q0 : (s != 0) = true := (by rw [bne_iff_ne]; exact hs0); have HX : Sl (printX o L = ⟨#[]⟩) := ⟨by rw [HPX.out, if_neg (by rw [HE.out]; exact hs0)]⟩; clear hs0; go_wp2_with fail; go_ret2; exact ⟨by rw [HE.out, HX.out]; rfl, HD.out.bl⟩
theorem wpList_made {P : Program} {ops : Array Oper} {Q : Exit → Act → World → Prop} {op : Oper} {rest : List Oper} {a : Act} {w : World} (k : Tmp) (hdst : op.dst = some k) (hgd : op.guard = none) (ty : TypeId) (n : Nat) (cells : Array Value)
    (hr : ∀ w : World, (execOp a.eval op).run P w = .ok (.value (.slice (some ⟨w.heap.size, 0, none⟩) n n)) (w.alloc (.cells cells ty)))
    (h : ∀ w' g, g = w.heap.size → Mv w.heap.size w w' → w'.heap.size = g + 1 → Blk w' g ty cells → wpList P ops Q rest (a.put op.dst (.slice (some ⟨g, 0, none⟩) n n)) w') : wpList P ops Q (op :: rest) a w := by
  refine wpList_plain hgd fun K hK => ?_
  unfold Oper.wp; rw [hr w, Oper.upon_value]; exact hK _ _ (h _ _ rfl (Mv.of_below ((Below.refl _ _).alloc (Nat.le_refl _) _)) (by simp) (Blk.new w ty cells))
theorem RowG.of_blk {α : Type} {w : World} {g : Nat} {t : TypeId} {cs : Array Value} {n sz : Nat} {f : α → List Value} {l : List α} (h : Blk w g t cs) (hf : ∀ p, (f p).length = sz) (hl : l.length = n) (hc : cs.toList = l.flatMap f) : RowG w (some ⟨g, 0, none⟩) n sz f l := by
  refine ⟨hl, ⟨by rw [flG_len f sz hf, hl], fun _ => ⟨_, rfl, h.lt, fun j u hu => ?_⟩⟩, hf⟩; rw [← hc] at hu; rw [show (⟨g, 0, none⟩ : Addr).add j = ⟨g, j, none⟩ by unfold Addr.add; split <;> simp_all]; have := h.cell j; rw [this, ← Array.getElem?_toList]; exact hu
def exO (A1 A2 A3 A4 P1 P2 P3 : Option Addr) : SpO := ⟨A1, 1, 1, [⟨⟨#[103, 114, 101, 97, 116]⟩, 36, 60⟩], A2, 2, 2, [⟨⟨#[102, 108, 117, 116, 101]⟩, 2, 8, 1, 36, 37⟩, ⟨⟨#[114, 101, 101, 100]⟩, 4, 8, 1, 36, 13⟩],
  A3, 3, 3, [⟨⟨#[102, 108, 117, 116, 101, 56]⟩, 0, 8, 1, P1, 1, 1, [⟨0, 0, 36, 60⟩]⟩, ⟨⟨#[102, 108, 117, 116, 101, 52]⟩, 0, 4, 1, P2, 1, 1, [⟨0, 12, 36, 60⟩]⟩, ⟨⟨#[98, 97, 115, 115]⟩, 0, 8, 1, P3, 1, 1, [⟨1, 0, 36, 48⟩]⟩], A4, 1, 1, [⟨⟨#[111, 99, 116, 97, 118, 101]⟩, 0, 0, 12, 0, false⟩]⟩
instance decI64 (z : Int) : Decidable (i64 z) := by unfold i64; infer_instance
theorem exO_F (A1 A2 A3 A4 P1 P2 P3 : Option Addr) : SpF (exO A1 A2 A3 A4 P1 P2 P3) := by
  have m1 : (1 : Nat) ≤ maxLen := (by decide); have m2 : (2 : Nat) ≤ maxLen := (by decide); have m3 : (3 : Nat) ≤ maxLen := (by decide); constructor
  · exact ⟨⟨Nat.le_refl _, m1⟩, ⟨Nat.le_refl _, m2⟩, ⟨Nat.le_refl _, m3⟩, ⟨Nat.le_refl _, m1⟩⟩
  · intro x hx; simp only [exO, List.mem_cons, List.not_mem_nil, or_false] at hx; subst hx; exact ⟨by decide, by decide, by decide⟩
  · intro x hx; simp only [exO, List.mem_cons, List.not_mem_nil, or_false] at hx; rcases hx with rfl | rfl <;> exact ⟨by decide, by decide, by decide, by decide, by decide, by decide⟩
  · intro x hx; simp only [exO, List.mem_cons, List.not_mem_nil, or_false] at hx; rcases hx with rfl | rfl | rfl <;> dsimp only <;> refine ⟨by decide, by decide, by decide, by decide, ⟨by decide, m1⟩, fun p hp => ?_⟩ <;> simp only [List.mem_cons, List.not_mem_nil, or_false] at hp <;> subst hp <;> exact ⟨by decide, by decide, by decide, by decide⟩
  · intro x hx; simp only [exO, List.mem_cons, List.not_mem_nil, or_false] at hx; subst hx; exact ⟨by decide, by decide, by decide, by decide, by decide⟩
theorem alloc_spec (w : World) : (Instr.alloc 33 true (.tuple #[])).run Tryz.prog w = .ok (.pointer (some ⟨w.heap.size, 0, none⟩)) (w.alloc (.cells #[.slice none 0 0, .slice none 0 0, .slice none 0 0, .slice none 0 0] 33)) := by kernel_rfl
theorem alloc_feet (w : World) : (Instr.alloc 87 true (.tuple #[])).run Tryz.prog w = .ok (.pointer (some ⟨w.heap.size, 0, none⟩)) (w.alloc (.cells #[.int .i64 0, .int .i64 0] 87)) := by kernel_rfl
theorem example_any (w : World) : Calls Tryz.prog 10 #[] w fun e w' =>
    (∃ A1 A2 A3 A4 P1 P2 P3, e = .returned (.agg #[.slice A1 1 1, .slice A2 2 2, .slice A3 3 3, .slice A4 1 1]) ∧ SpM w' (exO A1 A2 A3 A4 P1 P2 P3)) ∧ Below w.heap.size w w' := by
  have HD : Sl (Lg w w []) := ⟨Lg.nil w⟩; go_enter Tryz.func10, Tryz.ntmps10
  go_wp2_with ((with_reducible show wpList _ _ _ _ _ _); first
    | (refine wpList_alloc_new 0 rfl rfl 33 rfl #[.slice none 0 0, .slice none 0 0, .slice none 0 0, .slice none 0 0] alloc_spec ?_; rintro w1 g0 zg zm zs zb; replace HD : Sl _ := ⟨HD.out.new zg zm zb⟩; clear zg zm zs zb)
    | (refine wpList_alloc_new 1 rfl rfl 87 rfl #[.int .i64 0, .int .i64 0] alloc_feet ?_; rintro w2 g1 zg zm zs zb; replace HD : Sl _ := ⟨HD.out.new zg zm zb⟩; clear zg zm zs zb)
    | (refine wpList_alloc_new 2 rfl rfl 87 rfl #[.int .i64 0, .int .i64 0] alloc_feet ?_; rintro w3 g2 zg zm zs zb; replace HD : Sl _ := ⟨HD.out.new zg zm zb⟩; clear zg zm zs zb)
    | (refine wpList_store_whole rfl 87 (.tmp 1) (.tmp 3) rfl g1 #[.int .i64 8, .int .i64 1] rfl rfl 87 _ (HD.out.at_ 1 rfl) rfl (by kernel_rfl) (by simp [Value.oneCell']) ?_; rintro w4 zm zs zb; replace HD : Sl _ := ⟨HD.out.set 1 rfl zm zb⟩; clear zm zs zb)
    | (refine wpList_store_whole rfl 87 (.tmp 2) (.tmp 4) rfl g2 #[.int .i64 4, .int .i64 1] rfl rfl 87 _ (HD.out.at_ 0 rfl) rfl (by kernel_rfl) (by simp [Value.oneCell']) ?_; rintro w5 zm zs zb; replace HD : Sl _ := ⟨HD.out.set 0 rfl zm zb⟩; clear zm zs zb)
    | (refine wpList_made 6 rfl rfl 98 1 #[.string ⟨#[103, 114, 101, 97, 116]⟩, .int .i64 36, .int .i64 60] (fun _ => by kernel_rfl) ?_; rintro w6 gd zg zm zs zb; replace HD : Sl _ := ⟨HD.out.new zg zm zb⟩; clear zg zm zs zb)
    | (refine wpList_load_whole rfl 87 (.tmp 1) rfl g1 rfl 87 _ _ (HD.out.at_ 2 rfl) Tryz.underlying87 rfl (by kernel_rfl) ?_)
    | (refine wpList_load_whole rfl 87 (.tmp 1) rfl g1 rfl 87 _ _ (HD.out.at_ 2 rfl) Tryz.underlying87 rfl (by kernel_rfl) ?_)
    | (refine wpList_made 11 rfl rfl 100 2 #[.string ⟨#[102, 108, 117, 116, 101]⟩, .int .i64 2, .int .i64 8, .int .i64 1, .int .i64 36, .int .i64 37, .string ⟨#[114, 101, 101, 100]⟩, .int .i64 4, .int .i64 8, .int .i64 1, .int .i64 36, .int .i64 13] (fun _ => by kernel_rfl) ?_; rintro w7 gr zg zm zs zb; replace HD : Sl _ := ⟨HD.out.new zg zm zb⟩; clear zg zm zs zb)
    | (refine wpList_load_whole rfl 87 (.tmp 1) rfl g1 rfl 87 _ _ (HD.out.at_ 3 rfl) Tryz.underlying87 rfl (by kernel_rfl) ?_)
    | (refine wpList_made 14 rfl rfl 102 1 #[.int .i64 0, .int .i64 0, .int .i64 36, .int .i64 60] (fun _ => by kernel_rfl) ?_; rintro w8 p1 zg zm zs zb; replace HD : Sl _ := ⟨HD.out.new zg zm zb⟩; clear zg zm zs zb)
    | (refine wpList_load_whole rfl 87 (.tmp 2) rfl g2 rfl 87 _ _ (HD.out.at_ 3 rfl) Tryz.underlying87 rfl (by kernel_rfl) ?_)
    | (refine wpList_made 18 rfl rfl 102 1 #[.int .i64 0, .int .i64 12, .int .i64 36, .int .i64 60] (fun _ => by kernel_rfl) ?_; rintro w9 p2 zg zm zs zb; replace HD : Sl _ := ⟨HD.out.new zg zm zb⟩; clear zg zm zs zb)
    | (refine wpList_load_whole rfl 87 (.tmp 1) rfl g1 rfl 87 _ _ (HD.out.at_ 5 rfl) Tryz.underlying87 rfl (by kernel_rfl) ?_)
    | (refine wpList_made 22 rfl rfl 102 1 #[.int .i64 1, .int .i64 0, .int .i64 36, .int .i64 48] (fun _ => by kernel_rfl) ?_; rintro w10 p3 zg zm zs zb; replace HD : Sl _ := ⟨HD.out.new zg zm zb⟩; clear zg zm zs zb)
    | (refine wpList_made 24 rfl rfl 90 3 #[.string ⟨#[102, 108, 117, 116, 101, 56]⟩, .int .i64 0, .int .i64 8, .int .i64 1, .slice (some ⟨p1, 0, none⟩) 1 1, .string ⟨#[102, 108, 117, 116, 101, 52]⟩, .int .i64 0, .int .i64 4, .int .i64 1, .slice (some ⟨p2, 0, none⟩) 1 1, .string ⟨#[98, 97, 115, 115]⟩, .int .i64 0, .int .i64 8, .int .i64 1, .slice (some ⟨p3, 0, none⟩) 1 1] (fun _ => by kernel_rfl) ?_; rintro w11 gs zg zm zs zb; replace HD : Sl _ := ⟨HD.out.new zg zm zb⟩; clear zg zm zs zb)
    | (refine wpList_made 26 rfl rfl 93 1 #[.string ⟨#[111, 99, 116, 97, 118, 101]⟩, .int .i64 0, .int .i64 0, .int .i64 12, .int .i64 0, .bool false] (fun _ => by kernel_rfl) ?_; rintro w12 gc zg zm zs zb; replace HD : Sl _ := ⟨HD.out.new zg zm zb⟩; clear zg zm zs zb)
    | (refine wpList_store_whole rfl 33 (.tmp 0) (.tmp 27) rfl g0 #[.slice (some ⟨gd, 0, none⟩) 1 1, .slice (some ⟨gr, 0, none⟩) 2 2, .slice (some ⟨gs, 0, none⟩) 3 3, .slice (some ⟨gc, 0, none⟩) 1 1] rfl rfl 33 _ (HD.out.at_ 9 rfl) rfl (by kernel_rfl) (by simp [Value.oneCell']) ?_; rintro w13 zm zs zb; replace HD : Sl _ := ⟨HD.out.set 9 rfl zm zb⟩; clear zm zs zb))
  refine bodyPost_ret (results_row1c rfl _ _ g0 _ _ _ rfl (HD.out.at_ 9 rfl) Tryz.underlying33 rfl (by kernel_rfl)) rfl ?_; refine ⟨⟨some ⟨gd, 0, none⟩, some ⟨gr, 0, none⟩, some ⟨gs, 0, none⟩, some ⟨gc, 0, none⟩, some ⟨p1, 0, none⟩, some ⟨p2, 0, none⟩, some ⟨p3, 0, none⟩, rfl, ?_⟩, HD.out.bl⟩; refine ⟨.of_blk (HD.out.at_ 6 rfl) (fun _ => rfl) rfl rfl, .of_blk (HD.out.at_ 5 rfl) (fun _ => rfl) rfl rfl, .of_blk (HD.out.at_ 1 rfl) (fun _ => rfl) rfl rfl, .of_blk (HD.out.at_ 0 rfl) (fun _ => rfl) rfl rfl, fun y hy => ?_⟩; simp only [exO, List.mem_cons, List.not_mem_nil, or_false] at hy; rcases hy with rfl | rfl | rfl
  · exact .of_blk (HD.out.at_ 4 rfl) (fun _ => rfl) rfl rfl
  · exact .of_blk (HD.out.at_ 3 rfl) (fun _ => rfl) rfl rfl
  · exact .of_blk (HD.out.at_ 2 rfl) (fun _ => rfl) rfl rfl
def tbL (a b c d : Option Addr) : List RgV := [⟨a, 1, 1, [0], none, 0, 0, []⟩, ⟨b, 1, 1, [2], c, 1, 1, [0]⟩, ⟨d, 1, 1, [1], none, 0, 0, []⟩]
theorem II.of_blk {w : World} {g n : Nat} {t : TypeId} {cs : Array Value} {l : List Int} (h : Blk w g t cs) (hl : l.length = n) (hc : cs.toList = l.map iv) : II w (some ⟨g, 0, none⟩) n l := by
  refine ⟨hl, by rw [List.length_map, hl, Nat.mul_one], fun _ => ⟨_, rfl, h.lt, fun j u hu => ?_⟩⟩; rw [← hc] at hu; rw [show (⟨g, 0, none⟩ : Addr).add j = ⟨g, j, none⟩ by unfold Addr.add; split <;> simp_all]; have := h.cell j; rw [this, ← Array.getElem?_toList]; exact hu
theorem table_any (w : World) : Calls Tryz.prog 18 #[] w fun e w' =>
    (∃ T a b c d, e = .returned (.agg #[.slice T 3 3]) ∧ TbM w' T 3 3 (tbL a b c d)) ∧ Below w.heap.size w w' := by
  have HD : Sl (Lg w w []) := ⟨Lg.nil w⟩; go_enter Tryz.func18, Tryz.ntmps18
  go_wp2_with ((with_reducible show wpList _ _ _ _ _ _); first
    | (refine wpList_alloc_new 0 rfl rfl 53 rfl #[.slice none 0 0] alloc_cre ?_; rintro w1 g0 zg zm zs zb; replace HD : Sl _ := ⟨HD.out.new zg zm zb⟩; clear zg zm zs zb)
    | (refine wpList_made 1 rfl rfl 3 1 #[.int .i64 0] (fun _ => by kernel_rfl) ?_; rintro w2 a zg zm zs zb; replace HD : Sl _ := ⟨HD.out.new zg zm zb⟩; clear zg zm zs zb)
    | (refine wpList_made 3 rfl rfl 3 1 #[.int .i64 2] (fun _ => by kernel_rfl) ?_; rintro w3 b zg zm zs zb; replace HD : Sl _ := ⟨HD.out.new zg zm zb⟩; clear zg zm zs zb)
    | (refine wpList_made 4 rfl rfl 3 1 #[.int .i64 0] (fun _ => by kernel_rfl) ?_; rintro w4 c zg zm zs zb; replace HD : Sl _ := ⟨HD.out.new zg zm zb⟩; clear zg zm zs zb)
    | (refine wpList_made 6 rfl rfl 3 1 #[.int .i64 1] (fun _ => by kernel_rfl) ?_; rintro w5 d zg zm zs zb; replace HD : Sl _ := ⟨HD.out.new zg zm zb⟩; clear zg zm zs zb)
    | (refine wpList_made 8 rfl rfl 45 3 #[.slice (some ⟨a, 0, none⟩) 1 1, .slice none 0 0, .slice (some ⟨b, 0, none⟩) 1 1, .slice (some ⟨c, 0, none⟩) 1 1, .slice (some ⟨d, 0, none⟩) 1 1, .slice none 0 0] (fun _ => by kernel_rfl) ?_; rintro w6 gt zg zm zs zb; replace HD : Sl _ := ⟨HD.out.new zg zm zb⟩; clear zg zm zs zb)
    | (refine wpList_store_whole rfl 53 (.tmp 0) (.tmp 9) rfl g0 #[.slice (some ⟨gt, 0, none⟩) 3 3] rfl rfl 53 _ (HD.out.at_ 5 rfl) rfl (by kernel_rfl) (by simp [Value.oneCell']) ?_; rintro w7 zm zs zb; replace HD : Sl _ := ⟨HD.out.set 5 rfl zm zb⟩; clear zm zs zb))
  refine bodyPost_ret (results_row1c rfl _ _ g0 _ _ _ rfl (HD.out.at_ 5 rfl) Tryz.underlying53 rfl (by kernel_rfl)) rfl ?_; refine ⟨⟨some ⟨gt, 0, none⟩, some ⟨a, 0, none⟩, some ⟨b, 0, none⟩, some ⟨c, 0, none⟩, some ⟨d, 0, none⟩, rfl, ?_⟩, HD.out.bl⟩; refine ⟨.of_blk (HD.out.at_ 0 rfl) (fun _ => rfl) rfl rfl, ⟨Nat.le_refl _, by decide⟩, fun y hy => ?_⟩; simp only [tbL, List.mem_cons, List.not_mem_nil, or_false] at hy; rcases hy with rfl | rfl | rfl
  · exact ⟨.of_blk (HD.out.at_ 4 rfl) rfl rfl, II.nil _ _, ⟨Nat.le_refl _, by show 1 ≤ maxLen; decide⟩, ⟨Nat.le_refl _, Nat.zero_le _⟩⟩
  · exact ⟨.of_blk (HD.out.at_ 3 rfl) rfl rfl, .of_blk (HD.out.at_ 2 rfl) rfl rfl, ⟨Nat.le_refl _, by show 1 ≤ maxLen; decide⟩, ⟨Nat.le_refl _, by show 1 ≤ maxLen; decide⟩⟩
  · exact ⟨.of_blk (HD.out.at_ 1 rfl) rfl rfl, II.nil _ _, ⟨Nat.le_refl _, by show 1 ≤ maxLen; decide⟩, ⟨Nat.le_refl _, Nat.zero_le _⟩⟩
theorem own_neb {w : World} {base base' size n size' n' k : Nat} {e e' : TypeId} {v v' : Value} {xs xs' : List Value} (h : w.ownsRow base e size v n xs) (h' : w.ownsRow base' e' size' v' n' xs') (hk : v.ownBlock = some k) (hk' : v'.ownBlock = some k) (ht : e ≠ e') : False := by
  rcases h'.2 with ⟨rfl, _⟩ | ⟨b, cap, cur, rfl, _, hh, _⟩
  · cases hk'
  · injection hk' with hk'
    have hk' : b = k := hk'; subst hk'; exact own_ne h hk (show Blk w b e' cur from hh) ht rfl
theorem wp_append_g {α : Type} (f : α → List Value) {o : Oper} {a : Act} {w : World} {K : Act → World → Prop} {Q : Exit → Act → World → Prop} (s x : Operand) (t e : TypeId)
    (ho : o.op = .call { callee := .builtin .append, args := #[s, x], argTypes := #[t, t] }) (size bytes : Nat) (z : Value) (hT : Tryz.prog.underlying t = some (.slice e))
    (hI : ∃ i, Tryz.prog.info? e = some i ∧ i.zero = some z ∧ i.size = size ∧ i.bytes = bytes) (hzs : z.cells.size = size) (hsz : 0 < size) (hby : bytes ≤ 1000) (h1 : ∀ x, ∀ u ∈ f x, u.oneCell' = true)
    (base : Nat) (A : Option Addr) (n c : Nat) (L : List α) (hs : a.eval s = .slice A n c) (hown : w.ownsRow base e size (.slice A n c) n (L.flatMap f))
    (B : Option Addr) (m d : Nat) (K' : List α) (hx : a.eval x = .slice B m d) (hr : Reads w w.heap.size size B m (K'.flatMap f)) (hnm : n + m ≤ 100000000) (hbase : base ≤ w.heap.size)
    (h : ∀ A' c' w', w'.ownsRow base e size (.slice A' (n + m) c') (n + m) ((L ++ K').flatMap f) → w.grownBy w' (Value.slice A n c).ownBlock → ((Value.slice A' (n + m) c').ownBlock = (Value.slice A n c).ownBlock ∨ (Value.slice A' (n + m) c').ownBlock = some w.heap.size) → K (a.put o.dst (.slice A' (n + m) c')) w') :
    o.wp Tryz.prog a w K Q := by
  obtain ⟨i, h2, h3, h4, h5⟩ := hI; have hb : (n + m) * bytes ≤ 140737488355328 := Nat.le_trans (Nat.mul_le_mul hnm hby) (by decide); refine wp_append_any w s x t ho base e i z size bytes hT h2 h3 h4 h5 hzs hsz _ n _ hs hown w.heap.size B m d (K'.flatMap f) hx hr (fun u hu => ?_) (by unfold maxLen; omega) hb hbase (fun v' w' h5 h6 h7 => ?_)
  · obtain ⟨y, _, hy⟩ := List.mem_flatMap.1 hu; exact h1 y u hy
  · rw [← List.flatMap_append] at h5; rcases h5.2 with ⟨rfl, h0⟩ | ⟨g, cap, cur, rfl, _⟩
    · have hn0 : n + m = 0 := h0; have e : Value.slice none 0 0 = Value.slice none (n + m) 0 := (by rw [hn0]); rw [e] at h5 h7 ⊢; exact h _ _ _ h5 h6 h7
    · exact h _ _ _ h5 h6 h7
theorem wpList_append_g {α : Type} (f : α → List Value) {ops : Array Oper} {rest : List Oper} {o : Oper} {a : Act} {w : World} {Q : Exit → Act → World → Prop} (hgd : o.guard = none) (s x : Operand) (t e : TypeId)
    (ho : o.op = .call { callee := .builtin .append, args := #[s, x], argTypes := #[t, t] }) (size bytes : Nat) (z : Value) (hT : Tryz.prog.underlying t = some (.slice e))
    (hI : ∃ i, Tryz.prog.info? e = some i ∧ i.zero = some z ∧ i.size = size ∧ i.bytes = bytes) (hzs : z.cells.size = size) (hsz : 0 < size) (hby : bytes ≤ 1000) (h1 : ∀ x, ∀ u ∈ f x, u.oneCell' = true)
    (base : Nat) (A : Option Addr) (n c : Nat) (L : List α) (hs : a.eval s = .slice A n c) (hown : w.ownsRow base e size (.slice A n c) n (L.flatMap f))
    (B : Option Addr) (m d : Nat) (K' : List α) (hx : a.eval x = .slice B m d) (hr : Reads w w.heap.size size B m (K'.flatMap f)) (hnm : n + m ≤ 100000000) (hbase : base ≤ w.heap.size)
    (h : ∀ A' c' w', w'.ownsRow base e size (.slice A' (n + m) c') (n + m) ((L ++ K').flatMap f) → w.grownBy w' (Value.slice A n c).ownBlock → ((Value.slice A' (n + m) c').ownBlock = (Value.slice A n c).ownBlock ∨ (Value.slice A' (n + m) c').ownBlock = some w.heap.size) → wpList Tryz.prog ops Q rest (a.put o.dst (.slice A' (n + m) c')) w') :
    wpList Tryz.prog ops Q (o :: rest) a w :=
  wpList_plain hgd fun _ hK => wp_append_g f s x t e ho size bytes z hT hI hzs hsz hby h1 base A n c L hs hown B m d K' hx hr hnm hbase fun A' c' w' h2 h3 h4 => hK _ _ (h A' c' w' h2 h3 h4)
theorem infoReg : ∃ i, Tryz.prog.info? 45 = some i ∧ i.zero = some (.agg #[.slice none 0 0, .slice none 0 0]) ∧ i.size = 2 ∧ i.bytes = 48 := by
  have h : (Tryz.prog.info? 45).map (fun i => (i.zero, i.size, i.bytes)) = some (some (.agg #[.slice none 0 0, .slice none 0 0]), 2, 48) := (by kernel_rfl); obtain ⟨i, hi, he⟩ := Option.map_eq_some_iff.1 h; injection he with e1 e2
  injection e2 with e2 e3
  exact ⟨i, hi, e1, e2, e3⟩
theorem rg_one (r : RgV) : ∀ u ∈ r.cells, u.oneCell' = true := fun u hu => by
  rcases List.mem_cons.1 hu with rfl | h
  · rfl
  · rw [List.mem_singleton.1 h]; rfl
def FR (w : World) (base : Nat) (A : Option Addr) (n c : Nat) (L : List RgV) : Prop := w.ownsRow base 45 2 (.slice A n c) n (L.flatMap RgV.cells)
theorem FR.row {w : World} {base n c : Nat} {A : Option Addr} {L : List RgV} (h : FR w base A n c L) : RowG w A n 2 RgV.cells L ∧ n ≤ c ∧ c ≤ maxLen := rowG_own h
theorem FR.nil (w : World) (base : Nat) : FR w base none 0 0 [] := World.ownsRow_nil _ _ _ _
theorem FR.below {w w' : World} {base n c : Nat} {A : Option Addr} {L : List RgV} (h : FR w base A n c L) (hb : Below w.heap.size w w') : FR w' base A n c L := (MvP.of_below hb).own h (fun _ _ e => e)
theorem RgO.kp {w w' : World} {b : Nat} {r : RgV} {p : Nat → Prop} (h : RgO w b r) (hm : MvP p w w') (hs : ∀ k, (Value.slice r.A r.n r.c).ownBlock = some k → ¬ p k) (hc : ∀ k, (Value.slice r.B r.m r.d).ownBlock = some k → ¬ p k) : RgO w' b r := ⟨hm.own h.s hs, hm.own h.c hc, h.ne⟩
theorem RgO.grown {w w' : World} {b base n c : Nat} {r : RgV} {A : Option Addr} {L : List RgV} (h : RgO w b r) (hF : FR w base A n c L) (hg : w.grownBy w' (Value.slice A n c).ownBlock) : RgO w' b r :=
  h.kp (MvP.of_grown hg) (fun k hk e => own_neb (e' := 45) h.s hF hk e (by decide)) (fun k hk e => own_neb (e' := 45) h.c hF hk e (by decide))
theorem RgO.lower {w : World} {b b' : Nat} {r : RgV} (h : RgO w b r) (hb : b' ≤ b) : RgO w b' r := ⟨h.s.mono hb, h.c.mono hb, h.ne⟩
theorem row_made (w : World) (r : RgV) (t : TypeId) : RowG (w.alloc (.cells #[.slice r.A r.n r.c, .slice r.B r.m r.d] t)) (some ⟨w.heap.size, 0, none⟩) 1 2 RgV.cells [r] :=
  RowG.of_blk (Blk.new w t _) (fun _ => rfl) rfl rfl
theorem qFrames_any (base : Nat) (o : SpO) (m : SqM) (V : SqV RgV) (w : World) (h : SQ w base o m V) (hn : V.L.length ≤ 500) (hb : ∀ r ∈ V.L, r.n ≤ 1000000 ∧ r.m ≤ 1000000) :
    Calls Tryz.prog 25 #[ptr m.q] w fun en w' => (∃ A c L, en = .returned (.tuple #[.slice A V.L.length c, .int .i64 (V.p : Int), .int .i64 0]) ∧ (Dep w' (fun i => w.heap.size ≤ i ∧ i < w'.heap.size) fun W => TbM W A V.L.length c L) ∧ L.map RgV.v = V.L.map RgV.v) ∧ Below w.heap.size w w' := by
  have H : Sl _ := ⟨h⟩; have HBD : Sl _ := ⟨hb⟩; obtain ⟨q, hq⟩ : ∃ q, m.q = q := ⟨_, rfl⟩; obtain ⟨n, hnn⟩ : ∃ n, V.L.length = n := ⟨_, rfl⟩; obtain ⟨p, hpp⟩ : ∃ p, V.p = p := ⟨_, rfl⟩; have HQ : Sl (m.q = q ∧ V.L.length = n ∧ V.p = p) := ⟨⟨hq, hnn, hpp⟩⟩; have hn500 : (n : Int) ≤ 500 := (by omega); have HN : Sl (n ≤ 500) := ⟨by omega⟩; have c0 : w.cell? ⟨q, 0, none⟩ = some (.bool true) := (by rw [← hq]; exact h.cell 0 rfl); have c5 : w.cell? ⟨q, 5, none⟩ = some (.slice m.FA n m.fc) := (by rw [← hq, ← hnn]; exact h.cell 5 rfl); rw [hq, hnn, hpp]; clear h hb hn hq hnn hpp; have HC0 : Sl _ := ⟨isq_any q w c0⟩; go_enter Tryz.func25, Tryz.ntmps25; go_wp2_with fail; refine HC0.out.mono ?_; rintro en w1 ⟨rfl, rfl⟩; clear HC0 c0; go_wp2_with fail; clear c5
  go_loopw [2, 14] (fun s2 s14 wr => ∃ (k : Nat) (A : Option Addr) (c : Nat) (L : List RgV), k ≤ n ∧ s2 = .slice A k c ∧ s14 = .int .i64 k ∧ Sl (Below w1.heap.size w1 wr ∧ FR wr w1.heap.size A k c L ∧ (∀ r ∈ L, RgO wr w1.heap.size r) ∧ L.map RgV.v = (V.L.take k).map RgV.v)) (fun _ s14 _ => n - (RowKit.intOf s14).toNat)
  case atStart => exact ⟨0, none, 0, [], Nat.zero_le _, rfl, rfl, ⟨Below.refl _ _, FR.nil _ _, fun r hr => (by cases hr), rfl⟩⟩
  case round =>
    obtain ⟨k, A, c, L, hk, rfl, rfl, HM⟩ := hrel; have hk0 : (0 : Int) ≤ (k : Int) := (by omega); have HS : Sl (SQ wr base o m V) := ⟨H.out.below HM.out.1⟩
    by_cases hkn : k < n
    · have hkI : decide ((k : Int) < (n : Int)) = true := decide_eq_true (by omega); have hkI2 : (k : Int) < (n : Int) := (by omega); obtain ⟨x, hx⟩ : ∃ x, V.L[k]? = some x := ⟨_, List.getElem?_eq_getElem (by rw [HQ.out.2.1]; exact hkn)⟩; obtain ⟨g, hg, hgl, hgc, hgr⟩ := HS.out.frame_at hx; have HX : Sl (RgM wr x ∧ V.L[k]? = some x ∧ x.n ≤ 1000000 ∧ x.m ≤ 1000000) := ⟨⟨(HS.out.rg x (List.mem_of_getElem? hx)).now, hx, HBD.out x (List.mem_of_getElem? hx)⟩⟩; have hr0 := hgr wr HS.out; have x0 : wr.cell? ⟨g, k * 2, none⟩ = some (.slice x.A x.n x.c) := hr0 0 _ rfl; have x1 : wr.cell? ⟨g, k * 2 + 1, none⟩ = some (.slice x.B x.m x.d) := hr0 1 _ rfl; rw [hg]; rw [HQ.out.2.1] at hgc; clear hg hx hgr hr0
      go_upto_region 6 with ((with_reducible show wpList _ _ _ _ _ _); first
        | (refine wpList_alloc_new 6 rfl rfl 45 rfl #[.slice none 0 0, .slice none 0 0] alloc_reg ?_; rintro wa gx zg zm zs zb; have HXA : Sl _ := ⟨And.intro zg (And.intro zm (And.intro zs zb))⟩; clear zg zm zs zb)
        | (refine wpList_store_whole rfl 45 (.tmp 6) (.tmp 17) rfl gx #[.slice x.A x.n x.c, .slice x.B x.m x.d] rfl rfl 45 _ HXA.out.2.2.2 rfl (by kernel_rfl) (by simp [Value.oneCell']) ?_; rintro wb zm zs zb; have HXS : Sl _ := ⟨And.intro zm (And.intro zs zb)⟩; clear zm zs zb))
      have hwb : Below wr.heap.size wr wb := below_mv (below_mv (Below.refl _ _) HXA.out.2.1 (Nat.le_refl _) (Nat.le_refl _)) HXS.out.1 (by have := HXA.out.1; omega) (by have := HXA.out.1; have := HXA.out.2.2.1; omega); have y0 := HXS.out.2.2.cell 0; have y1 := HXS.out.2.2.cell 1; have HWB : Sl _ := ⟨hwb⟩; have HCC : Sl _ := ⟨copied_any x wb (HX.out.1.below hwb) HX.out.2.2.1 HX.out.2.2.2⟩; clear hwb x0 x1 HXA; go_wp2_with fail; refine HCC.out.mono ?_; rintro en wc ⟨⟨A0, c0, B0, d0, rfl, ho⟩, hb⟩; obtain ⟨y, hy⟩ : ∃ y : RgV, (⟨A0, x.n, c0, x.l, B0, x.m, d0, x.k⟩ : RgV) = y := ⟨_, rfl⟩; have HY : Sl _ := ⟨hy⟩; have HC : Sl (RgO wc wb.heap.size y ∧ Below wb.heap.size wb wc ∧ Below wr.heap.size wr wc) := ⟨⟨by rw [← hy]; exact ho, hb, HWB.out.trans (hb.mono HWB.out.size)⟩⟩; have HL : Sl (FR wc w1.heap.size A k c L ∧ (∀ r ∈ L, RgO wc w1.heap.size r) ∧ RgO wc w1.heap.size y ∧ w1.heap.size ≤ wc.heap.size) := ⟨⟨HM.out.2.1.below HC.out.2.2, fun r hr => (HM.out.2.2.1 r hr).below HC.out.2.2, HC.out.1.lower (Nat.le_trans HM.out.1.size HWB.out.size), Nat.le_trans HM.out.1.size HC.out.2.2.size⟩⟩; have HRM : Sl (RowG (wc.alloc (.cells #[.slice A0 x.n c0, .slice B0 x.m d0] 45)) (some ⟨wc.heap.size, 0, none⟩) 1 2 RgV.cells [y]) := ⟨by have h := row_made wc y 45; rw [← HY.out] at h ⊢; exact h⟩; have HAL : Sl (∀ o, Below wc.heap.size wc (wc.alloc o)) := ⟨fun o => (Below.refl _ _).alloc (Nat.le_refl _) o⟩; clear ho hb HCC y0 y1 HXS hy
      go_wp2_with ((with_reducible show wpList _ _ _ _ _ _); first
        | (refine wpList_append_g RgV.cells rfl (.tmp 18) (.tmp 21) 36 45 rfl 2 48 _ Tryz.underlying36 infoReg rfl (by decide) (by decide) rg_one w1.heap.size A k c L rfl (HL.out.1.below (HAL.out _)) (some ⟨wc.heap.size, 0, none⟩) 1 1 [y] rfl HRM.out.rd (by have := HN.out; omega) (Nat.le_trans HL.out.2.2.2 (HAL.out _).size) ?_; rintro A9 c9 we z1 z2 z3; have HE : Sl _ := ⟨And.intro z1 (And.intro z2 z3)⟩; clear z1 z2 z3))
      have hbe : Below w1.heap.size w1 we := (MvP.of_grown HE.out.2.1).below ((HM.out.1.trans (HC.out.2.2.mono HM.out.1.size)).trans ((HAL.out _).mono HL.out.2.2.2)) (Nat.le_trans HL.out.2.2.2 (HAL.out _).size) (fun i e => (own_lt2 HL.out.1 e).1)
      have HV : Sl (Below w1.heap.size w1 we ∧ FR we w1.heap.size A9 (k + 1) c9 (L ++ [y]) ∧ (∀ r ∈ L ++ [y], RgO we w1.heap.size r) ∧ (L ++ [y]).map RgV.v = (V.L.take (k + 1)).map RgV.v) := ⟨hbe, HE.out.1, fun r hr => by
          have hF := HL.out.1.below (HAL.out (.cells #[.slice A0 x.n c0, .slice B0 x.m d0] 45)); rcases List.mem_append.1 hr with hr | hr
          · exact ((HL.out.2.1 r hr).below (HAL.out _)).grown hF HE.out.2.1
          · rw [List.mem_singleton.1 hr]
            exact (HL.out.2.2.1.below (HAL.out _)).grown hF HE.out.2.1, by
          rw [List.map_append, HM.out.2.2.2, List.take_add_one, HX.out.2.1, List.map_append, ← HY.out]
          rfl⟩
      clear hbe; exact ⟨⟨k + 1, A9, c9, L ++ [y], by omega, rfl, by go_num, HV⟩, by simp [RowKit.intOf]; omega⟩
    · obtain rfl : k = n := (by omega); have hkI : decide ((k : Int) < (k : Int)) = false := decide_eq_false (by omega); have HBD2 : Sl (Below wr.heap.size wr wr.drew) := ⟨below_drewN (Below.refl _ _) 1⟩; have hS0 : wr.drew.cell? ⟨q, 6, none⟩ = some (.int .i64 (p : Int)) := (by rw [← HQ.out.1, ← HQ.out.2.2]; exact (HS.out.below HBD2.out).cell 6 rfl); have HT : Sl (∃ A' c' L', (.slice A k c : Value) = .slice A' k c' ∧ (Dep wr.drew (fun i => w1.heap.size ≤ i ∧ i < wr.drew.heap.size) fun W => TbM W A' k c' L') ∧ L'.map RgV.v = V.L.map RgV.v) := ⟨A, c, L, rfl, Dep.tb (HM.out.2.1.below HBD2.out) (fun i hi => own_lt2 (HM.out.2.1.below HBD2.out) (blkOf_own.1 hi)) (fun r hr => Dep.reg ((HM.out.2.2.1 r hr).below HBD2.out) (fun i h1 h2 => ⟨h1, h2⟩)), by rw [HM.out.2.2.2, List.take_of_length_le (by rw [HQ.out.2.1]; exact Nat.le_refl _)]⟩; go_wp2_with fail; have hm := hS0; refine wp_region_held_drew (S := fun w' => w'.cell? ⟨q, 6, none⟩ = some (.int .i64 (p : Int))) (by kernel_rfl) hm (fun hHeld => ?_); clear hm; refine hM 0 (v := .slice A k c) rfl rfl ?_; simp only [pS]; refine hM 1 (v := ptr q) rfl rfl ?_; simp only [pS]; refine hS 2 (v := ptr q) rfl rfl ?_; simp only [pS]; refine hS 3 (v := .pointer (some ⟨q, 6, none⟩)) rfl rfl ?_; simp only [pS]
      refine hC 4 (v := .int .i64 (p : Int)) rfl rfl (fun w' h => by
        have hc := h
        go_simp) ?_
      simp only [pS]; refine hM 5 (v := .slice A k c) rfl rfl ?_; simp only [pS]; refine hM 6 (v := .int .i64 (p : Int)) rfl rfl ?_; simp only [pS]; refine hM 7 (v := .int .i64 0) rfl rfl ?_; simp only [pS]; refine wpAnyH_done (by kernel_rfl) ?_ _; clear hHeld hS0; go_wp2_with fail; refine bodyPost_ret (v := .tuple #[.slice A k c, .int .i64 (p : Int), .int .i64 0]) (by simp [results, Tryz.results25, go_sem]) rfl ?_; obtain ⟨A', c', L', e1, h1, h2⟩ := HT.out; exact ⟨⟨A', c', L', by rw [e1], h1, h2⟩, HM.out.1.trans (HBD2.out.mono HM.out.1.size)⟩
theorem wp_box_newm {P : Program} {op : Oper} {a : Act} {w : World} {K : Act → World → Prop} {Q : Exit → Act → World → Prop} (ty : TypeId) (x : Operand) (ho : op.op = .box ty x) (cells : Array Value) (hx : a.eval x = .agg cells)
    (hz : ∀ w, (Instr.box ty (.agg cells)).run P w = .ok (.pointer (some ⟨w.heap.size, 0, none⟩)) (w.alloc (.cells cells ty)))
    (h : ∀ w' g, g = w.heap.size → Below w.heap.size w w' → w'.heap.size = g + 1 → Blk w' g ty cells → K (a.put op.dst (.pointer (some ⟨g, 0, none⟩))) w') : op.wp P a w K Q := by
  have hrun : (execOp a.eval op).run P w = .ok (.value (.pointer (some ⟨w.heap.size, 0, none⟩))) (w.alloc (.cells cells ty)) := by
    unfold execOp; simp only [ho, hx, Sem.run_bind, hz, Result.andThen_ok, Sem.run_pure]
  unfold Oper.wp; rw [hrun, Oper.upon_value]; exact h _ _ rfl ((Below.refl _ _).alloc (Nat.le_refl _) _) (by simp) (Blk.new w ty cells)
theorem eql_nilS {P : Program} (w : World) (t e : TypeId) (a : Option Addr) (l c : Nat) (h : P.underlying t = some (.slice e)) : (binOp .eql t (.slice a l c) (.slice none 0 0)).run P w = .ok (.bool a.isNone) w := by
  have h1 : (Op.equal t (.slice a l c) (.slice none 0 0)).run P w = .ok a.isNone w := run_equal_slice_nil w t e a l c h; simp only [binOp]; simp [h1]
theorem own_mt (w : World) (base g size : Nat) (e : TypeId) (hB : Blk w g e #[]) (hg : base ≤ g) : w.ownsRow base e size (.slice (some ⟨g, 0, none⟩) 0 0) 0 [] :=
  ⟨by simp, .inr ⟨g, 0, #[], rfl, hg, hB, Nat.le_refl _, Nat.zero_le _, by rw [Nat.zero_mul]; rfl, by rw [Nat.zero_mul]; rfl⟩⟩
theorem rowG_of_own {α : Type} {f : α → List Value} {sz : Nat} (hf : ∀ x, (f x).length = sz) (h0 : 0 < sz) {w : World} {base n c : Nat} {t : TypeId} {A : Option Addr} {L : List α} (h : w.ownsRow base t sz (.slice A n c) n (L.flatMap f)) : RowG w A n sz f L ∧ n ≤ c ∧ c ≤ maxLen := by
  have hl : L.length = n := by
    have h1 := h.1
    have h2 : (L.flatMap f).length = L.length * sz := by
      clear h h1
      induction L with
      | nil => simp
      | cons x L ih => rw [List.flatMap_cons, List.length_append, ih, List.length_cons, hf, Nat.add_mul]; omega
    rw [h2] at h1; exact Nat.eq_of_mul_eq_mul_right h0 h1
  refine ⟨⟨hl, Reads.of_own h, hf⟩, ?_⟩; rcases h.2 with ⟨h0, _⟩ | ⟨b, cap, cur, e1, _, _, h1, h2, _⟩
  · injection h0 with _ b c
    subst b c; exact ⟨Nat.le_refl _, by decide⟩
  · injection e1 with _ _ c
    subst c; exact ⟨h1, h2⟩
theorem infoStop : ∃ i, Tryz.prog.info? 90 = some i ∧ i.zero = some (.agg #[.string ⟨#[]⟩, .int .i64 0, .int .i64 0, .int .i64 0, .slice none 0 0]) ∧ i.size = 5 ∧ i.bytes = 64 := by
  have h : (Tryz.prog.info? 90).map (fun i => (i.zero, i.size, i.bytes)) = some (some (.agg #[.string ⟨#[]⟩, .int .i64 0, .int .i64 0, .int .i64 0, .slice none 0 0]), 5, 64) := (by kernel_rfl); obtain ⟨i, hi, he⟩ := Option.map_eq_some_iff.1 h; injection he with e1 e2
  injection e2 with e2 e3
  exact ⟨i, hi, e1, e2, e3⟩
theorem oneStop (x : SpV) : ∀ u ∈ SpV.cells x, u.oneCell' = true := fun u hu => by
  have h : u ∈ [Value.string x.nm, .int .i64 x.dv, .int .i64 x.fn, .int .i64 x.fd, .slice x.A x.n x.c] := hu; simp only [List.mem_cons, List.not_mem_nil, or_false] at h; rcases h with rfl | rfl | rfl | rfl | rfl <;> rfl
theorem cloneStop_any (A : Option Addr) (n c : Nat) (l : List SpV) (w : World) (h : RowG w A n 5 SpV.cells l) (hn : n ≤ 100000) :
    Calls Tryz.prog 39 #[.slice A n c] w fun e w' => (∃ A' c', e = .returned (.slice A' n c') ∧ w'.ownsRow w.heap.size 90 5 (.slice A' n c') n (l.flatMap SpV.cells)) ∧ Below w.heap.size w w' := by
  rcases A with _ | ad
  · have h0 : n = 0 := by
      rcases Nat.eq_zero_or_pos n with h0 | h0
      · exact h0
      · obtain ⟨ad, e, _⟩ := h.rd.2 h0
        cases e
    subst h0; have hl : l = [] := List.eq_nil_of_length_eq_zero h.len; subst hl; clear h hn; have hnil : ∀ W, (binOp .eql 30 (.slice none 0 c) (.slice none 0 0)).run Tryz.prog W = .ok (.bool true) W := fun W => eql_nilS W _ _ _ _ _ Tryz.underlying30
    go_enter Tryz.func39, Tryz.ntmps39; go_wp2_with fail; go_ret; exact ⟨⟨none, 0, rfl, World.ownsRow_nil _ _ _ _⟩, Below.refl _ _⟩
  · have HR : Sl _ := ⟨h⟩; have HN : Sl (n ≤ 100000) := ⟨hn⟩; clear h hn; have hnil : ∀ W, (binOp .eql 30 (.slice (some ad) n c) (.slice none 0 0)).run Tryz.prog W = .ok (.bool false) W := fun W => eql_nilS W _ _ _ _ _ Tryz.underlying30
    go_enter Tryz.func39, Tryz.ntmps39
    go_wp2_with ((with_reducible show wpList _ _ _ _ _ _); first
      | (refine wpList_append_g SpV.cells rfl (.tmp 5) (.tmp 6) 30 90 rfl 5 64 _ Tryz.underlying30 infoStop rfl (by decide) (by decide) oneStop w.heap.size (some ⟨w.heap.size, 0, none⟩) 0 0 [] rfl (own_mt _ _ _ _ _ (Blk.new w _ _) (Nat.le_refl _)) (some ad) n c l rfl (HR.out.below ((Below.refl _ _).alloc (Nat.le_refl _) _)).rd (by have := HN.out; omega) (by simp) ?_; rintro A1 c1 w1 zo zg zt; rw [Nat.zero_add, List.nil_append] at zo; have HO1 : Sl _ := ⟨zo⟩; have HB1 : Sl (Below w.heap.size w w1) := ⟨below_grown ((Below.refl w.heap.size w).alloc (Nat.le_refl _) _) zg (by simp) (fun q hq => by injection hq with hq; exact Nat.le_of_eq hq)⟩; clear zo zg zt))
    go_ret; exact ⟨⟨A1, c1, by simp, HO1.out⟩, HB1.out⟩
theorem infoCoup : ∃ i, Tryz.prog.info? 93 = some i ∧ i.zero = some (.agg #[.string ⟨#[]⟩, .int .i64 0, .int .i64 0, .int .i64 0, .int .i64 0, .bool false]) ∧ i.size = 6 ∧ i.bytes = 56 := by
  have h : (Tryz.prog.info? 93).map (fun i => (i.zero, i.size, i.bytes)) = some (some (.agg #[.string ⟨#[]⟩, .int .i64 0, .int .i64 0, .int .i64 0, .int .i64 0, .bool false]), 6, 56) := (by kernel_rfl); obtain ⟨i, hi, he⟩ := Option.map_eq_some_iff.1 h; injection he with e1 e2
  injection e2 with e2 e3
  exact ⟨i, hi, e1, e2, e3⟩
theorem oneCoup (x : CpV) : ∀ u ∈ CpV.cells x, u.oneCell' = true := fun u hu => by
  have h : u ∈ [Value.string x.nm, .int .i64 x.fr, .int .i64 x.tt, .int .i64 x.sh, .int .i64 x.on, .bool x.th] := hu; simp only [List.mem_cons, List.not_mem_nil, or_false] at h; rcases h with rfl | rfl | rfl | rfl | rfl | rfl <;> rfl
theorem cloneCoup_any (A : Option Addr) (n c : Nat) (l : List CpV) (w : World) (h : RowG w A n 6 CpV.cells l) (hn : n ≤ 100000) :
    Calls Tryz.prog 40 #[.slice A n c] w fun e w' => (∃ A' c', e = .returned (.slice A' n c') ∧ w'.ownsRow w.heap.size 93 6 (.slice A' n c') n (l.flatMap CpV.cells)) ∧ Below w.heap.size w w' := by
  rcases A with _ | ad
  · have h0 : n = 0 := by
      rcases Nat.eq_zero_or_pos n with h0 | h0
      · exact h0
      · obtain ⟨ad, e, _⟩ := h.rd.2 h0
        cases e
    subst h0; have hl : l = [] := List.eq_nil_of_length_eq_zero h.len; subst hl; clear h hn; have hnil : ∀ W, (binOp .eql 31 (.slice none 0 c) (.slice none 0 0)).run Tryz.prog W = .ok (.bool true) W := fun W => eql_nilS W _ _ _ _ _ Tryz.underlying31
    go_enter Tryz.func40, Tryz.ntmps40; go_wp2_with fail; go_ret; exact ⟨⟨none, 0, rfl, World.ownsRow_nil _ _ _ _⟩, Below.refl _ _⟩
  · have HR : Sl _ := ⟨h⟩; have HN : Sl (n ≤ 100000) := ⟨hn⟩; clear h hn; have hnil : ∀ W, (binOp .eql 31 (.slice (some ad) n c) (.slice none 0 0)).run Tryz.prog W = .ok (.bool false) W := fun W => eql_nilS W _ _ _ _ _ Tryz.underlying31
    go_enter Tryz.func40, Tryz.ntmps40
    go_wp2_with ((with_reducible show wpList _ _ _ _ _ _); first
      | (refine wpList_append_g CpV.cells rfl (.tmp 5) (.tmp 6) 31 93 rfl 6 56 _ Tryz.underlying31 infoCoup rfl (by decide) (by decide) oneCoup w.heap.size (some ⟨w.heap.size, 0, none⟩) 0 0 [] rfl (own_mt _ _ _ _ _ (Blk.new w _ _) (Nat.le_refl _)) (some ad) n c l rfl (HR.out.below ((Below.refl _ _).alloc (Nat.le_refl _) _)).rd (by have := HN.out; omega) (by simp) ?_; rintro A1 c1 w1 zo zg zt; rw [Nat.zero_add, List.nil_append] at zo; have HO1 : Sl _ := ⟨zo⟩; have HB1 : Sl (Below w.heap.size w w1) := ⟨below_grown ((Below.refl w.heap.size w).alloc (Nat.le_refl _) _) zg (by simp) (fun q hq => by injection hq with hq; exact Nat.le_of_eq hq)⟩; clear zo zg zt))
    go_ret; exact ⟨⟨A1, c1, by simp, HO1.out⟩, HB1.out⟩
theorem own_low {w : World} {base base' size n : Nat} {e : TypeId} {v : Value} {xs : List Value} (h : w.ownsRow base e size v n xs) (hb : base' ≤ base) : w.ownsRow base' e size v n xs :=
  ⟨h.1, h.2.imp id fun ⟨g, cap, cur, h1, h2, h3⟩ => ⟨g, cap, cur, h1, Nat.le_trans hb h2, h3⟩⟩
def newO (o : SpO) (A3 : Option Addr) (c3 : Nat) (A4 : Option Addr) (c4 : Nat) : SpO := ⟨none, 0, 0, [], none, 0, 0, [], A3, o.n3, c3, o.ss, A4, o.n4, c4, o.cs⟩
def newM (q : Nat) : SqM := ⟨q, none, 0, none, 0, [], fun i => i < q⟩
def newV : SqV RgV := ⟨[], 0, [], 0⟩
theorem newO_fine {o : SpO} (h : SpF o) {A3 A4 : Option Addr} {c3 c4 : Nat} (h3 : o.n3 ≤ c3 ∧ c3 ≤ maxLen) (h4 : o.n4 ≤ c4 ∧ c4 ≤ maxLen) : SpF (newO o A3 c3 A4 c4) :=
  ⟨⟨⟨Nat.le_refl _, by show 0 ≤ maxLen; exact Nat.zero_le _⟩, ⟨Nat.le_refl _, by show 0 ≤ maxLen; exact Nat.zero_le _⟩, h3, h4⟩, fun x hx => (by cases hx), fun x hx => (by cases hx), h.s, h.c⟩
theorem newO_mem {w w6 : World} {o : SpO} {A3 A4 : Option Addr} {c3 c4 q : Nat} (hM : SpM w o) (hb : Below w.heap.size w w6) (hq : w.heap.size ≤ q) (hl : q < w6.heap.size)
    (h3 : w6.ownsRow w.heap.size 90 5 (.slice A3 o.n3 c3) o.n3 (o.ss.flatMap SpV.cells)) (h4 : w6.ownsRow w.heap.size 93 6 (.slice A4 o.n4 c4) o.n4 (o.cs.flatMap CpV.cells))
    (l3 : ∀ k, (Value.slice A3 o.n3 c3).ownBlock = some k → k < q) (l4 : ∀ k, (Value.slice A4 o.n4 c4).ownBlock = some k → k < q) : Dep w6 (fun i => i < q) fun w' => SpM w' (newO o A3 c3 A4 c4) := fun w' hm => by
  have hbw : Below w.heap.size w w' := hm.below hb hb.size (fun i e => by omega); exact ⟨RowG.nil _ _ _ _ (fun _ => rfl), RowG.nil _ _ _ _ (fun _ => rfl), (rowG_of_own (f := SpV.cells) (sz := 5) (fun _ => rfl) (by decide) (hm.own h3 (fun k hk e => e (l3 k hk)))).1, (rowG_of_own (f := CpV.cells) (sz := 6) (fun _ => rfl) (by decide) (hm.own h4 (fun k hk e => e (l4 k hk)))).1, fun x hx => (hM.p x hx).below hbw⟩
theorem qNew_no (o : SpO) (w : World) (hM : SpM w o) (hF : SpF o) (h0 : specE o ≠ 0) :
    Calls Tryz.prog 9 #[.agg #[.slice o.A1 o.n1 o.c1, .slice o.A2 o.n2 o.c2, .slice o.A3 o.n3 o.c3, .slice o.A4 o.n4 o.c4]] w fun en w' => en = .returned (.tuple #[.pointer none, .int .i64 (specE o)]) ∧ Below w.heap.size w w' := by
  have HM : Sl _ := ⟨hM⟩; have HF : Sl _ := ⟨hF⟩; have HD : Sl (Lg w w []) := ⟨Lg.nil w⟩; have HSC : Sl _ := ⟨fun (W : World) (hW : Below w.heap.size w W) => speccheck_any o W (hM.below hW) hF⟩; unfold SpecR at HSC; clear hM hF; obtain ⟨s, hs⟩ : ∃ s, specE o = s := ⟨_, rfl⟩; rw [hs] at HSC h0 ⊢; have hb0 : (s != 0) = true := (by simp [h0]); have HH : Sl _ := ⟨h0⟩; clear hs h0; go_enter Tryz.func9, Tryz.ntmps9
  go_upto_region 1 with ((with_reducible show wpList _ _ _ _ _ _); first
    | (refine wpList_box_new 1 rfl rfl 33 (.tmp 0) rfl #[.slice o.A1 o.n1 o.c1, .slice o.A2 o.n2 o.c2, .slice o.A3 o.n3 o.c3, .slice o.A4 o.n4 o.c4] rfl (fun _ => by kernel_rfl) ?_; rintro ws gs zg zm zs zb; replace HD : Sl _ := ⟨HD.out.new zg zm zb⟩; clear zg zm zs zb))
  have s0 := (HD.out.at_ 0 rfl).cell 0; have s1 := (HD.out.at_ 0 rfl).cell 1; have s2 := (HD.out.at_ 0 rfl).cell 2; have s3 := (HD.out.at_ 0 rfl).cell 3; simp at s0 s1 s2 s3; go_wp2_with fail; refine (HSC.out _ HD.out.bl).mono ?_; rintro e w1 ⟨⟨a1, a2, a3, rfl⟩, hb⟩; replace HD : Sl _ := ⟨HD.out.below hb⟩; clear HSC hb s0 s1 s2 s3
  go_upto_region 2 with ((with_reducible show wpList _ _ _ _ _ _); first
    | (refine wpList_alloc_new 4 rfl rfl 72 rfl #[.int .i64 0, .int .i64 0, .int .i64 0] alloc_fault ?_; rintro w2 gf zg zm zs zb; replace HD : Sl _ := ⟨HD.out.new zg zm zb⟩; clear zg zm zs zb)
    | (refine wpList_store_whole rfl 72 (.tmp 4) (.tmp 9) rfl gf #[.int .i64 a1, .int .i64 a2, .int .i64 a3] rfl rfl 72 _ (HD.out.at_ 0 rfl) rfl (by kernel_rfl) (by simp [Value.oneCell']) ?_; rintro w3 zm zs zb; replace HD : Sl _ := ⟨HD.out.upd zm zb⟩; clear zm zs zb))
  go_wp2_with fail; refine bodyPost_ret (v := .tuple #[.pointer none, .int .i64 s]) (by simp [results, Tryz.results9, go_sem]) rfl ?_; exact ⟨rfl, HD.out.bl⟩
theorem qNew_any (o : SpO) (w : World) (hM : SpM w o) (hF : SpF o) (h0 : specE o = 0) :
    Calls Tryz.prog 9 #[.agg #[.slice o.A1 o.n1 o.c1, .slice o.A2 o.n2 o.c2, .slice o.A3 o.n3 o.c3, .slice o.A4 o.n4 o.c4]] w fun en w' => (∃ q A3 c3 A4 c4, en = .returned (.tuple #[ptr q, .int .i64 0]) ∧ w.heap.size ≤ q ∧ w'.heap.size = q + 1 ∧ SpF (newO o A3 c3 A4 c4) ∧ SQ w' w.heap.size (newO o A3 c3 A4 c4) (newM q) newV) ∧ Below w.heap.size w w' := by
  have HM : Sl _ := ⟨hM⟩; have HF : Sl _ := ⟨hF⟩; have HD : Sl (Lg w w []) := ⟨Lg.nil w⟩; have HSC : Sl _ := ⟨fun (W : World) (hW : Below w.heap.size w W) => speccheck_any o W (hM.below hW) hF⟩; unfold SpecR at HSC; clear hM hF; have HN : Sl (o.n3 ≤ 80 ∧ o.n4 ≤ 24) := ⟨by have := specE_bd h0; omega⟩; rw [h0] at HSC; clear h0; go_enter Tryz.func9, Tryz.ntmps9
  go_upto_region 1 with ((with_reducible show wpList _ _ _ _ _ _); first
    | (refine wpList_box_new 1 rfl rfl 33 (.tmp 0) rfl #[.slice o.A1 o.n1 o.c1, .slice o.A2 o.n2 o.c2, .slice o.A3 o.n3 o.c3, .slice o.A4 o.n4 o.c4] rfl (fun _ => by kernel_rfl) ?_; rintro ws gs zg zm zs zb; replace HD : Sl _ := ⟨HD.out.new zg zm zb⟩; clear zg zm zs zb))
  have s0 := (HD.out.at_ 0 rfl).cell 0; have s1 := (HD.out.at_ 0 rfl).cell 1; have s2 := (HD.out.at_ 0 rfl).cell 2; have s3 := (HD.out.at_ 0 rfl).cell 3; simp at s0 s1 s2 s3; go_wp2_with fail; refine (HSC.out _ HD.out.bl).mono ?_; rintro e w1 ⟨⟨a1, a2, a3, rfl⟩, hb⟩; replace HD : Sl _ := ⟨HD.out.below hb⟩; clear HSC hb s0 s1 s2 s3
  go_upto_region 2 with ((with_reducible show wpList _ _ _ _ _ _); first
    | (refine wpList_alloc_new 4 rfl rfl 72 rfl #[.int .i64 0, .int .i64 0, .int .i64 0] alloc_fault ?_; rintro w2 gf zg zm zs zb; replace HD : Sl _ := ⟨HD.out.new zg zm zb⟩; clear zg zm zs zb)
    | (refine wpList_store_whole rfl 72 (.tmp 4) (.tmp 9) rfl gf #[.int .i64 a1, .int .i64 a2, .int .i64 a3] rfl rfl 72 _ (HD.out.at_ 0 rfl) rfl (by kernel_rfl) (by simp [Value.oneCell']) ?_; rintro w3 zm zs zb; replace HD : Sl _ := ⟨HD.out.upd zm zb⟩; clear zm zs zb))
  replace HD : Sl _ := ⟨HD.out.drop⟩; have HBD : Sl (Below w3.heap.size w3 w3.drew) := ⟨below_drewN (Below.refl _ _) 1⟩; have HQD : Sl (∀ W, Below w3.heap.size w3 W → Lg w W [(gs, 33, #[.slice o.A1 o.n1 o.c1, .slice o.A2 o.n2 o.c2, .slice o.A3 o.n3 o.c3, .slice o.A4 o.n4 o.c4])] ∧ SpM W o) := ⟨fun W hW => ⟨HD.out.below hW, HM.out.below (HD.out.below hW).bl⟩⟩; have hm0 := HBD.out; go_wp2_with fail; have hm := hm0; refine wp_region_held_drew (S := fun w' => Below w3.heap.size w3 w') (by kernel_rfl) hm (fun hHeld => ?_); clear hm; refine hS 0 (v := .pointer (some ⟨gs, 2, none⟩)) rfl rfl ?_; simp only [pS]
  refine hC 1 (v := .slice o.A3 o.n3 o.c3) rfl rfl (fun w' h => by
    have hc := ((HQD.out w' h).1.at_ 0 rfl).cell 2
    go_simp) ?_
  simp only [pS]; refine hS 3 (v := .pointer (some ⟨gs, 3, none⟩)) rfl rfl ?_; simp only [pS]
  refine hC 4 (v := .slice o.A4 o.n4 o.c4) rfl rfl (fun w' h => by
    have hc := ((HQD.out w' h).1.at_ 0 rfl).cell 3
    go_simp) ?_
  simp only [pS]; refine hO 2 rfl rfl fun K hK => ?_; go_simp; go_at_call 39
  (with_reducible refine (cloneStop_any o.A3 o.n3 o.c3 o.ss _ (HQD.out _ HBD.out).2.s (by have := HN.out; omega)).mono ?_)
  rintro e4 w4 ⟨⟨A3, c3, rfl, ho3⟩, hb4⟩; have HB4 : Sl _ := ⟨HBD.out.trans (hb4.mono HBD.out.size)⟩; have HO3 : Sl _ := ⟨ho3⟩; clear ho3 hb4; refine hK.out _ _ HB4.out (fun hHeld => ?_); clear hK K
  (try simp only [pS])
  refine hO 5 rfl rfl fun K hK => ?_; go_simp; go_at_call 40
  (with_reducible refine (cloneCoup_any o.A4 o.n4 o.c4 o.cs _ (HQD.out _ HB4.out).2.c (by have := HN.out; omega)).mono ?_)
  rintro e5 w5 ⟨⟨A4, c4, rfl, ho4⟩, hb5⟩; have HB5 : Sl _ := ⟨HB4.out.trans (hb5.mono HB4.out.size)⟩; have HO4 : Sl (w4.heap.size ≤ w5.heap.size ∧ _) := ⟨hb5.size, ho4⟩; replace HO3 : Sl _ := ⟨(MvP.of_below hb5).own HO3.out (fun _ _ e => e)⟩; clear ho4 hb5; refine hK.out _ _ HB5.out (fun hHeld => ?_); clear hK K
  (try simp only [pS])
  refine hS 6 (v := .agg #[.slice none 0 0, .slice none 0 0, .slice A3 o.n3 c3, .slice A4 o.n4 c4]) rfl rfl ?_; simp only [pS]; refine hS 7 (v := .agg #[.bool true, .slice none 0 0, .slice none 0 0, .slice A3 o.n3 c3, .slice A4 o.n4 c4, .slice none 0 0, .int .i64 0, .slice none 0 0, .int .i64 0]) rfl rfl ?_; simp only [pS]; refine hO 8 rfl rfl fun K hK => ?_; refine wp_box_newm 96 (.tmp 21) rfl #[.bool true, .slice none 0 0, .slice none 0 0, .slice A3 o.n3 c3, .slice A4 o.n4 c4, .slice none 0 0, .int .i64 0, .slice none 0 0, .int .i64 0] rfl (fun _ => by kernel_rfl) ?_; rintro w6 gq zg zb zs zB; have HZ : Sl _ := ⟨And.intro zg (And.intro zb (And.intro zs zB))⟩; refine hK.out _ _ (HB5.out.trans (zb.mono HB5.out.size)) (fun hHeld => ?_); clear hK K zg zb zs zB
  (try simp only [pS])
  refine hM 9 (v := .pointer (some ⟨gq, 0, none⟩)) rfl rfl ?_; simp only [pS]; refine hM 10 (v := .int .i64 0) rfl rfl ?_; simp only [pS]; refine wpAnyH_done (by kernel_rfl) ?_ _; clear hHeld hm0; go_wp2_with fail; refine bodyPost_ret (v := .tuple #[ptr gq, .int .i64 0]) (by simp [results, Tryz.results9, go_sem]) rfl ?_; have z1 := HZ.out.1; have z2 := HZ.out.2.1; have hsz : w.heap.size ≤ w5.heap.size := Nat.le_trans HD.out.bl.size HB5.out.size; have hb6 : Below w.heap.size w w6 := (HD.out.bl.trans (HB5.out.mono HD.out.bl.size)).trans (z2.mono hsz); have o3 := (MvP.of_below z2).own HO3.out (fun _ _ e => e); have o4 := (MvP.of_below z2).own HO4.out.2 (fun _ _ e => e); have hw3 : w.heap.size ≤ w3.drew.heap.size := HD.out.bl.size; have o3' := own_low o3 hw3; have hw4 : w.heap.size ≤ w4.heap.size := Nat.le_trans HD.out.bl.size HB4.out.size; have o4' := own_low o4 hw4; refine ⟨⟨gq, A3, c3, A4, c4, rfl, by omega, HZ.out.2.2.1, newO_fine HF.out (rowG_of_own (f := SpV.cells) (sz := 5) (fun _ => rfl) (by decide) o3).2 (rowG_of_own (f := CpV.cells) (sz := 6) (fun _ => rfl) (by decide) o4).2, ?_⟩, hb6⟩; refine ⟨HZ.out.2.2.2, (by show w.heap.size ≤ gq; omega), World.ownsRow_nil _ _ _ _, World.ownsRow_nil _ _ _ _, fun i hi hj => ?_, fun i hi => (by have hi : i < gq := hi; have := HZ.out.2.2.1; omega), ?_, fun r hr => (by cases hr), rfl, fun i x y h1 => (by simp [newV] at h1)⟩
  · have hj : i < gq := hj; rcases hi with hi | ⟨_, e, _⟩ | ⟨_, e, _⟩
    · have hi : i = gq := hi; omega
    · cases e
    · cases e
  · exact newO_mem HM.out hb6 (by omega) (by have := HZ.out.2.2.1; omega) o3' o4' (fun k hk => by have := (own_lt2 HO3.out hk).2; omega) (fun k hk => by have := (own_lt2 HO4.out.2 hk).2; omega)
theorem RowG.take {α : Type} {w : World} {A : Option Addr} {n sz : Nat} {f : α → List Value} {l : List α} (h : RowG w A n sz f l) {k : Nat} (hk : k ≤ n) : RowG w A k sz f (l.take k) := by
  have hl := h.len; refine ⟨by rw [List.length_take]; omega, ⟨?_, fun h0 => ?_⟩, h.fix⟩
  · rw [← fm_take f sz h.fix, List.length_take, h.rd.1]; exact Nat.min_eq_left (Nat.mul_le_mul_right _ hk)
  · obtain ⟨ad, e, hb, hc⟩ := h.rd.2 (by omega); refine ⟨ad, e, hb, fun j u hu => hc j u ?_⟩; rw [← fm_take f sz h.fix] at hu; exact (List.getElem?_take_of_lt (by have := (List.getElem?_eq_some_iff.1 hu).1; rw [List.length_take] at this; omega)).symm.trans hu
theorem RowG.drop {α : Type} {w : World} {A : Option Addr} {n sz c : Nat} {f : α → List Value} {l : List α} (h : RowG w A n sz f l) {k : Nat} (hk : k ≤ n) (hc : n ≤ c) : RowG w (if c = k then A else A.map (·.add (k * sz))) (n - k) sz f (l.drop k) := by
  refine ⟨by rw [List.length_drop, h.len], ?_, h.fix⟩; rw [← fm_drop f sz h.fix]; exact h.rd.cut hk hc
theorem FR.mt (w : World) (base g : Nat) (hB : Blk w g 45 #[]) (hg : base ≤ g) : FR w base (some ⟨g, 0, none⟩) 0 0 [] := own_mt w base g 2 _ hB hg
theorem rWith_any (A : Option Addr) (n c : Nat) (L : List RgV) (p : Nat) (r : RgV) (w : World) (h : RowG w A n 2 RgV.cells L) (hc : n ≤ c) (hp : p ≤ n) (hn : n ≤ 1000) :
    Calls Tryz.prog 50 #[.slice A n c, .int .i64 (p : Int), .agg #[.slice r.A r.n r.c, .slice r.B r.m r.d]] w fun e w' => (∃ A' c', e = .returned (.slice A' (n + 1) c') ∧ FR w' w.heap.size A' (n + 1) c' (insL L p r)) ∧ Below w.heap.size w w' := by
  have HR : Sl _ := ⟨h⟩; have HP : Sl (p ≤ n ∧ n ≤ c ∧ n ≤ 1000) := ⟨⟨hp, hc, hn⟩⟩; have hp0 : (0 : Int) ≤ (p : Int) := (by omega); have hpn : (p : Int) ≤ (n : Int) := (by omega); have hnc : (n : Int) ≤ (c : Int) := (by omega); have hpc : (p : Int) ≤ (c : Int) := (by omega); have HCUT : Sl _ := ⟨h.drop (k := p) hp hc⟩; clear h hc hp hn; go_enter Tryz.func50, Tryz.ntmps50
  go_upto_region 1 with ((with_reducible show wpList _ _ _ _ _ _); first
    | (refine wpList_box_new 5 rfl rfl 45 (.tmp 2) rfl #[.slice r.A r.n r.c, .slice r.B r.m r.d] rfl (fun _ => by kernel_rfl) ?_; rintro w1 g5 zg zm zs zb; have HB1 : Sl (Below w.heap.size w w1 ∧ g5 = w.heap.size) := ⟨⟨below_mv (Below.refl _ _) zm (Nat.le_refl _) (Nat.le_refl _), zg⟩⟩; have HG1 : Sl _ := ⟨zb⟩; clear zg zm zs zb))
  have HA1 : Sl (∀ o, Below w1.heap.size w1 (w1.alloc o)) := ⟨fun o => (Below.refl _ _).alloc (Nat.le_refl _) o⟩
  go_upto_region 2 with ((at_builtin; go_loud (refine wpList_append_g RgV.cells rfl (.tmp 8) (.tmp 11) 36 45 rfl 2 48 _ Tryz.underlying36 infoReg rfl (by decide) (by decide) rg_one w.heap.size (some ⟨w1.heap.size, 0, none⟩) 0 0 [] rfl (FR.mt _ _ _ (Blk.new w1 _ _) HB1.out.1.size) A p c (L.take p) rfl (((HR.out.take HP.out.1).below HB1.out.1).below (HA1.out _)).rd (by have := HP.out; omega) (Nat.le_trans HB1.out.1.size (HA1.out _).size) ?_; rintro A2 c2 w2 zo zg zt; rw [Nat.zero_add, List.nil_append] at zo; have HO2 : Sl (FR w2 w.heap.size A2 p c2 (L.take p)) := ⟨zo⟩; have HG2 : Sl _ := ⟨zg⟩; clear zo zg zt)))
  have HB2 : Sl (Below w1.heap.size w1 w2) := ⟨below_grown (HA1.out _) HG2.out (by simp) (fun q hq => by injection hq with hq; exact Nat.le_of_eq hq)⟩; have HG5 : Sl (Blk w2 g5 45 #[.slice r.A r.n r.c, .slice r.B r.m r.d]) := ⟨HG1.out.below HB2.out HG1.out.lt⟩; have c0 := HG5.out.cell 0; have c1 := HG5.out.cell 1; simp at c0 c1; have HA2 : Sl (∀ o, Below w2.heap.size w2 (w2.alloc o)) := ⟨fun o => (Below.refl _ _).alloc (Nat.le_refl _) o⟩; have HS2 : Sl (w.heap.size ≤ w2.heap.size) := ⟨Nat.le_trans HB1.out.1.size HB2.out.size⟩; clear HG2
  go_upto_region 3 with ((at_builtin; go_loud (refine wpList_append_g RgV.cells rfl (.tmp 13) (.tmp 15) 36 45 rfl 2 48 _ Tryz.underlying36 infoReg rfl (by decide) (by decide) rg_one w.heap.size A2 p c2 (L.take p) rfl (HO2.out.below (HA2.out _)) (some ⟨w2.heap.size, 0, none⟩) 1 1 [r] rfl (row_made w2 r _).rd (by have := HP.out; omega) (Nat.le_trans HS2.out (HA2.out _).size) ?_; rintro A3 c3 w3 zo zg zt; have HO3 : Sl (FR w3 w.heap.size A3 (p + 1) c3 (L.take p ++ [r])) := ⟨zo⟩; have HG3 : Sl _ := ⟨zg⟩; clear zo zg zt)))
  have HB3 : Sl (Below w.heap.size w w3) := ⟨below_grown ((HB1.out.1.trans (HB2.out.mono HB1.out.1.size)).trans ((HA2.out _).mono HS2.out)) HG3.out (Nat.le_trans HS2.out (HA2.out _).size) (fun q hq => (own_lt2 HO2.out hq).1)⟩; clear c0 c1 HG3; have HCW : Sl (RowG w3 (if c = p then A else A.map (·.add (p * 2))) (n - p) 2 RgV.cells (L.drop p)) := ⟨HCUT.out.below HB3.out⟩; clear HCUT
  by_cases hcf : c = p
  · rw [if_pos hcf] at HCW; have hcf2 : (c = p) = True := eq_true hcf; clear hcf; go_wp2_with ((at_builtin; go_loud (refine wpList_append_g RgV.cells rfl (.tmp 17) (.tmp 20) 36 45 rfl 2 48 _ Tryz.underlying36 infoReg rfl (by decide) (by decide) rg_one w.heap.size A3 (p + 1) c3 (L.take p ++ [r]) rfl HO3.out _ (n - p) _ (L.drop p) rfl HCW.out.rd (by have := HP.out; omega) HB3.out.size ?_; rintro A4 c4 w4 zo zg zt; have HO4 : Sl _ := ⟨zo⟩; have HG4 : Sl _ := ⟨zg⟩; clear zo zg zt))); have HB4 : Sl (Below w.heap.size w w4) := ⟨below_grown HB3.out HG4.out HB3.out.size (fun q hq => (own_lt2 HO3.out hq).1)⟩; go_ret; have e := HO4.out; have hpe := HP.out; rw [show (p + 1) + (n - p) = n + 1 by omega] at e; exact ⟨⟨A4, c4, by rw [show (p + 1) + (n - p) = n + 1 by omega]; rfl, by unfold insL FR; rw [List.append_assoc] at e; exact e⟩, HB4.out⟩
  · rw [if_neg hcf] at HCW; go_wp2_with ((at_builtin; go_loud (refine wpList_append_g RgV.cells rfl (.tmp 17) (.tmp 20) 36 45 rfl 2 48 _ Tryz.underlying36 infoReg rfl (by decide) (by decide) rg_one w.heap.size A3 (p + 1) c3 (L.take p ++ [r]) rfl HO3.out _ (n - p) _ (L.drop p) rfl HCW.out.rd (by have := HP.out; omega) HB3.out.size ?_; rintro A4 c4 w4 zo zg zt; have HO4 : Sl _ := ⟨zo⟩; have HG4 : Sl _ := ⟨zg⟩; clear zo zg zt))); have HB4 : Sl (Below w.heap.size w w4) := ⟨below_grown HB3.out HG4.out HB3.out.size (fun q hq => (own_lt2 HO3.out hq).1)⟩; go_ret; have e := HO4.out; have hpe := HP.out; rw [show (p + 1) + (n - p) = n + 1 by omega] at e; exact ⟨⟨A4, c4, by rw [show (p + 1) + (n - p) = n + 1 by omega]; rfl, by unfold insL FR; rw [List.append_assoc] at e; exact e⟩, HB4.out⟩
theorem rWithout_any (A : Option Addr) (n c : Nat) (L : List RgV) (p : Nat) (w : World) (h : RowG w A n 2 RgV.cells L) (hc : n ≤ c) (hp : p < n) (hn : n ≤ 1000) :
    Calls Tryz.prog 121 #[.slice A n c, .int .i64 (p : Int)] w fun e w' => (∃ A' c', e = .returned (.slice A' (n - 1) c') ∧ FR w' w.heap.size A' (n - 1) c' (delL L p)) ∧ Below w.heap.size w w' := by
  have HR : Sl _ := ⟨h⟩; have HP : Sl (p ≤ n ∧ n ≤ c ∧ n ≤ 1000 ∧ p < n) := ⟨⟨(by omega), hc, hn, hp⟩⟩; have hp0 : (0 : Int) ≤ (p : Int) := (by omega); have hpn : (p : Int) ≤ (n : Int) := (by omega); have hnc : (n : Int) ≤ (c : Int) := (by omega); have hpc : (p : Int) ≤ (c : Int) := (by omega); have hp1 : (p : Int) + 1 ≤ (n : Int) := (by omega); have hp2 : (p : Int) + 1 ≤ (c : Int) := (by omega); have hp1000 : (p : Int) < 1000 := (by omega); have HCUT : Sl _ := ⟨h.drop (k := p + 1) hp hc⟩; clear h hc hp hn; go_enter Tryz.func121, Tryz.ntmps121; have HA1 : Sl (∀ o, Below w.heap.size w (w.alloc o)) := ⟨fun o => (Below.refl _ _).alloc (Nat.le_refl _) o⟩
  go_upto_region 2 with ((at_builtin; go_loud (refine wpList_append_g RgV.cells rfl (.tmp 6) (.tmp 9) 36 45 rfl 2 48 _ Tryz.underlying36 infoReg rfl (by decide) (by decide) rg_one w.heap.size (some ⟨w.heap.size, 0, none⟩) 0 0 [] rfl (FR.mt _ _ _ (Blk.new w _ _) (Nat.le_refl _)) A p c (L.take p) rfl ((HR.out.take HP.out.1).below (HA1.out _)).rd (by have := HP.out; omega) (HA1.out _).size ?_; rintro A2 c2 w2 zo zg zt; rw [Nat.zero_add, List.nil_append] at zo; have HO2 : Sl (FR w2 w.heap.size A2 p c2 (L.take p)) := ⟨zo⟩; have HG2 : Sl _ := ⟨zg⟩; clear zo zg zt)))
  have HB3 : Sl (Below w.heap.size w w2) := ⟨below_grown (HA1.out _) HG2.out (by simp) (fun q hq => by injection hq with hq; exact Nat.le_of_eq hq)⟩; clear HG2; have HCW : Sl (RowG w2 (if c = p + 1 then A else A.map (·.add ((p + 1) * 2))) (n - (p + 1)) 2 RgV.cells (L.drop (p + 1))) := ⟨HCUT.out.below HB3.out⟩; clear HCUT
  by_cases hcf : c = p + 1
  · rw [if_pos hcf] at HCW; have hcf2 : (c = p + 1) = True := eq_true hcf; clear hcf; go_wp2_with ((at_builtin; go_loud (refine wpList_append_g RgV.cells rfl (.tmp 11) (.tmp 15) 36 45 rfl 2 48 _ Tryz.underlying36 infoReg rfl (by decide) (by decide) rg_one w.heap.size A2 p c2 (L.take p) rfl HO2.out _ (n - (p + 1)) _ (L.drop (p + 1)) rfl HCW.out.rd (by have := HP.out; omega) HB3.out.size ?_; rintro A4 c4 w4 zo zg zt; have HO4 : Sl _ := ⟨zo⟩; have HG4 : Sl _ := ⟨zg⟩; clear zo zg zt))); have HB4 : Sl (Below w.heap.size w w4) := ⟨below_grown HB3.out HG4.out HB3.out.size (fun q hq => (own_lt2 HO2.out hq).1)⟩; go_ret; have e := HO4.out; have hpe := HP.out; rw [show p + (n - (p + 1)) = n - 1 by omega] at e; exact ⟨⟨A4, c4, by rw [show p + (n - (p + 1)) = n - 1 by omega]; rfl, by unfold delL FR; exact e⟩, HB4.out⟩
  · rw [if_neg hcf] at HCW; go_wp2_with ((at_builtin; go_loud (refine wpList_append_g RgV.cells rfl (.tmp 11) (.tmp 15) 36 45 rfl 2 48 _ Tryz.underlying36 infoReg rfl (by decide) (by decide) rg_one w.heap.size A2 p c2 (L.take p) rfl HO2.out _ (n - (p + 1)) _ (L.drop (p + 1)) rfl HCW.out.rd (by have := HP.out; omega) HB3.out.size ?_; rintro A4 c4 w4 zo zg zt; have HO4 : Sl _ := ⟨zo⟩; have HG4 : Sl _ := ⟨zg⟩; clear zo zg zt))); have HB4 : Sl (Below w.heap.size w w4) := ⟨below_grown HB3.out HG4.out HB3.out.size (fun q hq => (own_lt2 HO2.out hq).1)⟩; go_ret; have e := HO4.out; have hpe := HP.out; rw [show p + (n - (p + 1)) = n - 1 by omega] at e; exact ⟨⟨A4, c4, by rw [show p + (n - (p + 1)) = n - 1 by omega]; rfl, by unfold delL FR; exact e⟩, HB4.out⟩
section
variable {P : Program} {ops : Array Oper} {Q : Exit → Act → World → Prop} {md : Region.Mode} {S : World → Prop} {L : Nat}
inductive Wts (md : Region.Mode) (ops : Array Oper) (l : Array Bool) (i : Nat) : Nat → Prop where
  | one {k : Nat} (h : waitsB md ops k i = true) (hu : l.getD i true = false) : Wts md ops l i k
  | more {k J : Nat} (h : waitsB md ops k J = true) (hu : l.getD J true = false) (h2 : Wts md ops l i J) : Wts md ops l i k
theorem Wts.not {l : Array Bool} {i k : Nat} (h : Wts md ops l i k) : k ∉ Region.ready md ops l := by
  cases h with
  | one h hu => exact waits_spec h hu
  | more h hu _ => exact waits_spec h hu
theorem Wts.set {l : Array Bool} {i k j : Nat} (h : Wts md ops l i k) (hj : j ∈ Region.ready md ops l) (hji : j ≠ i) : Wts md ops (l.setIfInBounds j true) i k := by
  induction h with
  | one h hu => exact .one h (by rw [getD_set_ne true hji]; exact hu)
  | @more k J h hu h2 ih =>
    have hJ : j ≠ J := fun e => h2.not (by rw [← e]; exact hj)
    exact .more h (by rw [getD_set_ne true hJ]; exact hu) ih
def chainN (md : Region.Mode) (ops : Array Oper) (l : Array Bool) (i : Nat) : Nat → Nat → Bool
  | 0, _ => false
  | n + 1, k => (List.range ops.size).any fun J => !(l.getD J true) && waitsB md ops k J && (J == i || chainN md ops l i n J)
theorem chainN_spec {l : Array Bool} {i : Nat} : ∀ (n k : Nat), chainN md ops l i n k = true → Wts md ops l i k
  | 0, _, h => by cases h
  | n + 1, k, h => by
    obtain ⟨J, _, hJ⟩ := List.any_eq_true.1 h; rw [Bool.and_eq_true, Bool.and_eq_true, Bool.or_eq_true] at hJ; have hu : l.getD J true = false := (by simpa using hJ.1.1); rcases hJ.2 with h2 | h2
    · have h2 : J = i := (by simpa using h2); subst h2; exact .one hJ.1.2 hu
    · exact .more hJ.1.2 hu (chainN_spec n J h2)
theorem wpAnyF_first {i : Nat} {oi : Oper} {v : Value} (hi : ops[i]? = some oi) (hsel : ∀ (j : Nat) (o : Oper) cs b, ops[j]? = some o → o.op ≠ .select cs b)
    (hQ : ∀ c a w, Q (.panic c) (a.put oi.dst v) w → Q (.panic c) a w) :
    ∀ (n : Nat) (l : Array Bool) (a : Act) (w : World), Wts md ops l i L →
      (∀ j oj, ops[j]? = some oj → j ≠ i → l.getD j true = false → (∀ e ∈ oj.after, Region.binds md e = true → e.on ≠ i) → oi.apart ops oj = true) →
      i ∈ Region.ready md ops l → YieldsIf P ops S oi v a → S w →
      wpAnyE P md ops Q S L n (l.setIfInBounds i true) (a.put oi.dst v) w → wpAnyE P md ops Q S L (n + 1) l a w
  | 0, l, a, w, _, _, hr, hy, hS, H => ⟨fun h => (by rw [h] at hr; cases hr), fun j hj => by
    by_cases hji : j = i
    · subst hji; exact hy.wpOp hi hS ⟨fun _ => hS, H⟩
    · have := ready_mono hj hji; rw [H.1] at this
      cases this⟩
  | n+1, l, a, w, hun, hfree, hr, hy, hS, H => ⟨fun h => (by rw [h] at hr; cases hr), fun j hj => by
    by_cases hji : j = i
    · subst hji; exact hy.wpOp hi hS ⟨fun _ => hS, H⟩
    · have hjL : j ≠ L := fun e => hun.not (e ▸ hj)
      obtain ⟨hjun, oj, hoj, hall⟩ := mem_ready.1 hj
      have hnot : ∀ e ∈ oj.after, Region.binds md e = true → e.on ≠ i := fun e he hb heq => by
        have h1 := hall e he hb; have h0 := (mem_ready.1 hr).1; rw [heq] at h1; rcases Nat.lt_or_ge i l.size with h' | h'
        · simp [h'] at h0 h1; rw [h0] at h1; cases h1
        · simp [Array.getElem?_eq_none h'] at h1
      refine wpOp_mono (fun a' w' h3 => ⟨h3.2.1, wpAnyF_first hi hsel hQ n (l.setIfInBounds j true) a' w' (hun.set hj hji) (fun k ok hk hki hun2 hno => ?_) (ready_mono hr (Ne.symm hji)) h3.1 (h3.2.1 hjL) ?_⟩)
        (wpOp_putIf hoj (hfree j oj hoj hji hjun hnot) (fun cs b => hsel i oi cs b hi) (fun cs b => hsel j oj cs b hoj) hQ hy (H.2 j (ready_mono hj hji)))
      · refine hfree k ok hk hki ?_ hno
        by_cases hjk : j = k
        · subst hjk; exact hjun
        · rw [getD_set_ne true hjk] at hun2; exact hun2
      · rw [Array.setIfInBounds_comm _ _ hji]
        exact h3.2.2⟩
theorem wpAnyF_take {i : Nat} {oi : Oper} {v : Value} {n : Nat} {l : Array Bool} {a : Act} {w : World} (hi : ops[i]? = some oi)
    (hs : Region.noSelect ops = true) (hf : Region.free md ops l i = true) (hr : (Region.ready md ops l).contains i = true) (hL : chainN md ops l i 16 L = true)
    (hQ : ∀ c a w, Q (.panic c) (a.put oi.dst v) w → Q (.panic c) a w) (hy : YieldsIf P ops S oi v a) (hS : S w)
    (h : wpAnyE P md ops Q S L n (l.setIfInBounds i true) (a.put oi.dst v) w) : wpAnyE P md ops Q S L (n + 1) l a w :=
  wpAnyF_first hi (Region.noSelect_spec hs) hQ n l a w (chainN_spec _ _ hL) (Region.free_spec hi hf) (by simpa using hr) hy hS h
theorem wpAnyF_pure (i : Nat) {oi : Oper} {v : Value} {n : Nat} {l : Array Bool} {a : Act} {w : World} (hi0 : ops.toList[i]? = some oi)
    (hs : Region.noSelect ops = true) (hf : Region.free md ops l i = true) (hr : (Region.ready md ops l).contains i = true) (hL : chainN md ops l i 16 L = true)
    (hQ : ∀ c a w, Q (.panic c) (a.put oi.dst v) w → Q (.panic c) a w) (hg : oi.guard = none) (hy : ∀ w, (execOp a.eval oi).run P w = .ok (.value v) w) (hS : S w)
    (h : wpAnyE P md ops Q S L n (l.setIfInBounds i true) (a.put oi.dst v) w) : wpAnyE P md ops Q S L (n + 1) l a w :=
  have hi : ops[i]? = some oi := (by rw [← Array.getElem?_toList]; exact hi0)
  wpAnyF_take hi hs hf hr hL hQ (.inl ⟨by simp [Region.wanted, hg], fun w _ => hy w⟩) hS h
theorem wpAnyF_load (i : Nat) {oi : Oper} {n : Nat} {l : Array Bool} {a : Act} {w : World} (ty : TypeId) (x : Operand) (hi0 : ops.toList[i]? = some oi) (ho : oi.op = .load ty x) (hg : oi.guard = none)
    (g o : Nat) (hx : a.eval x = .pointer (some ⟨g, o, none⟩)) (vs : Array Value) (d : TypeDesc) (hR : ∀ w, S w → w.rangeAt g o vs.toList) (hu : P.underlying ty = some d) (hd : d.isRow = true) (hz : (P.info? ty).map (·.size) = some vs.size)
    (hs : Region.noSelect ops = true) (hf : Region.free md ops l i = true) (hr : (Region.ready md ops l).contains i = true) (hL : chainN md ops l i 16 L = true)
    (hQ : ∀ c a w, Q (.panic c) (a.put oi.dst (.agg vs)) w → Q (.panic c) a w) (hS : S w)
    (h : wpAnyE P md ops Q S L n (l.setIfInBounds i true) (a.put oi.dst (.agg vs)) w) : wpAnyE P md ops Q S L (n + 1) l a w := by
  have hi : ops[i]? = some oi := (by rw [← Array.getElem?_toList]; exact hi0); have hy := yieldsIf_load_mid (P := P) (ops := ops) (S := S) (op := oi) (a := a) (by simp [Region.wanted, hg]) ty x ho g o hx vs.toList d hR hu hd (by rw [hz]; simp); rw [Array.toArray_toList] at hy; exact wpAnyF_take hi hs hf hr hL hQ hy hS h
theorem wpAnyF_cell (i : Nat) {oi : Oper} {n : Nat} {l : Array Bool} {a : Act} {w : World} {v : Value} (hi0 : ops.toList[i]? = some oi) (hg : oi.guard = none)
    (hy : ∀ w, S w → (execOp a.eval oi).run P w = .ok (.value v) w)
    (hs : Region.noSelect ops = true) (hf : Region.free md ops l i = true) (hr : (Region.ready md ops l).contains i = true) (hL : chainN md ops l i 16 L = true)
    (hQ : ∀ c a w, Q (.panic c) (a.put oi.dst v) w → Q (.panic c) a w) (hS : S w)
    (h : wpAnyE P md ops Q S L n (l.setIfInBounds i true) (a.put oi.dst v) w) : wpAnyE P md ops Q S L (n + 1) l a w :=
  have hi : ops[i]? = some oi := (by rw [← Array.getElem?_toList]; exact hi0)
  wpAnyF_take hi hs hf hr hL hQ (.inl ⟨by simp [Region.wanted, hg], hy⟩) hS h
theorem wpAnyE_two (i j : Nat) {oi oj : Oper} {n : Nat} {l : Array Bool} {a : Act} {w : World} (hi0 : ops.toList[i]? = some oi) (hj0 : ops.toList[j]? = some oj) (hr : Region.ready md ops l = [i, j]) (hgi : oi.guard = none) (hgj : oj.guard = none)
    (h1 : ∀ K' : Act → World → Prop, Shut (∀ a w, (i ≠ L → S w) → ((i ≠ L → S w) → wpAnyE P md ops Q S L n (l.setIfInBounds i true) a w) → K' a w) → Oper.wp P oi a w K' Q)
    (h2 : ∀ K' : Act → World → Prop, Shut (∀ a w, (j ≠ L → S w) → ((j ≠ L → S w) → wpAnyE P md ops Q S L n (l.setIfInBounds j true) a w) → K' a w) → Oper.wp P oj a w K' Q) : wpAnyE P md ops Q S L (n + 1) l a w := by
  have hi : ops[i]? = some oi := (by rw [← Array.getElem?_toList]; exact hi0); have hj : ops[j]? = some oj := (by rw [← Array.getElem?_toList]; exact hj0); refine ⟨fun h0 => (by rw [hr] at h0; cases h0), fun k hk => ?_⟩; rw [hr] at hk; rcases List.mem_cons.1 hk with rfl | hk
  · have hw : Region.wanted oi (yielded ops a.tmps) = true := (by simp [Region.wanted, hgi]); unfold Go.wpOp; simp only [hi, hw, if_true]; exact .inl (h1 _ fun a w h1 h2 => ⟨h1, h2 h1⟩)
  · obtain rfl := List.mem_singleton.1 hk; have hw : Region.wanted oj (yielded ops a.tmps) = true := (by simp [Region.wanted, hgj]); unfold Go.wpOp; simp only [hj, hw, if_true]; exact .inl (h2 _ fun a w h1 h2 => ⟨h1, h2 h1⟩)
end
end Go.Proofs.YtabkpbbjodfolaaGreatDoor
