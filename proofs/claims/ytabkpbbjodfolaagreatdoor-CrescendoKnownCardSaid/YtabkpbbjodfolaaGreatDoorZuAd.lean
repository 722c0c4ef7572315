/- The reference's sequence: edit. (Printed by genrqc.py.) -/
import Derived.Test.YtabkpbbjodfolaaGreatDoorZuAc
set_option linter.unusedSimpArgs false
set_option linter.unusedVariables false
set_option maxHeartbeats 25600000
set_option maxRecDepth 100000
namespace Go.Proofs.YtabkpbbjodfolaaGreatDoor
open Go.RowKit
def SqM.re (m : SqM) (EA : Option Addr) (ec : Nat) : SqM := { m with EA := EA, ec := ec }
def rqK (o : SpO) (N : StO) (A : Option Addr) (n c d : Nat) : Array Value :=
  #[.slice o.A1 o.n1 o.c1, .slice o.A2 o.n2 o.c2, .slice o.A3 o.n3 o.c3, .slice o.A4 o.n4 o.c4, .slice N.A N.L.length N.c, .int .i64 (N.p : Int), .slice A n c, .int .i64 (d : Int)]
theorem rqC_k (o : SpO) (m : SqM) (R : RqV) : rqC o m R = rqK o R.N m.EA R.E.length m.ec R.d := rfl
theorem infoEd : ∃ i, Tryz.prog.info? 114 = some i ∧ i.zero = some (.agg #[.slice none 0 0, .int .i64 0, .slice none 0 0, .int .i64 0]) ∧ i.size = 4 ∧ i.bytes = 64 := by
  have h : (Tryz.prog.info? 114).map (fun i => (i.zero, i.size, i.bytes)) = some (some (.agg #[.slice none 0 0, .int .i64 0, .slice none 0 0, .int .i64 0]), 4, 64) := (by kernel_rfl); obtain ⟨i, hi, he⟩ := Option.map_eq_some_iff.1 h; injection he with e1 e2
  injection e2 with e2 e3
  exact ⟨i, hi, e1, e2, e3⟩
theorem oneEd (e : StO × StO) : ∀ u ∈ edR e, u.oneCell' = true := fun u hu => edR_one [e] u (by simpa using hu)
theorem ERow.rowG {w : World} {base n c : Nat} {A : Option Addr} {E : List (StO × StO)} (h : ERow w base A n c (E.flatMap edR)) (hl : E.length = n) : RowG w A n 4 edR E := ⟨hl, h.reads, edR_len⟩
section
variable {P : Program} {ops : Array Oper} {Q : Exit → Act → World → Prop} {md : Region.Mode} {S : World → Prop} {L : Nat}
theorem fP (i : Nat) {oi : Oper} {v : Value} {n : Nat} {l : Array Bool} {a : Act} {w : World} (hi0 : ops.toList[i]? = some oi) (hg : oi.guard = none) (hy : ∀ w, (execOp a.eval oi).run P w = .ok (.value v) w) (h : wpAnyE P md ops Q S L n (l.setIfInBounds i true) (a.put oi.dst v) w) (hs : Region.noSelect ops = true := by kernel_rfl) (hf : Region.free md ops l i = true := by kernel_rfl) (hr : (Region.ready md ops l).contains i = true := by kernel_rfl) (hL : chainN md ops l i 16 L = true := by kernel_rfl) (hQ : ∀ c a w, Q (.panic c) (a.put oi.dst v) w → Q (.panic c) a w := by exact fun _ _ _ h => h) (hS : S w := by assumption) : wpAnyE P md ops Q S L (n + 1) l a w := wpAnyF_pure i hi0 hs hf hr hL hQ hg hy hS h
theorem fS (i : Nat) {oi : Oper} {v : Value} {n : Nat} {l : Array Bool} {a : Act} {w : World} (hi0 : ops.toList[i]? = some oi) (hg : oi.guard = none) (h : wpAnyE P md ops Q S L n (l.setIfInBounds i true) (a.put oi.dst v) w) (hs : Region.noSelect ops = true := by kernel_rfl) (hf : Region.free md ops l i = true := by kernel_rfl) (hr : (Region.ready md ops l).contains i = true := by kernel_rfl) (hL : chainN md ops l i 16 L = true := by kernel_rfl) (hQ : ∀ c a w, Q (.panic c) (a.put oi.dst v) w → Q (.panic c) a w := by exact fun _ _ _ h => h) (hS : S w := by assumption) (hy : ∀ w, (execOp a.eval oi).run P w = .ok (.value v) w := by intro _; go_simp) : wpAnyE P md ops Q S L (n + 1) l a w := wpAnyF_pure i hi0 hs hf hr hL hQ hg hy hS h
theorem fM (i : Nat) {oi : Oper} {v : Value} {n : Nat} {l : Array Bool} {a : Act} {w : World} (hi0 : ops.toList[i]? = some oi) (hg : oi.guard = none) (h : wpAnyE P md ops Q S L n (l.setIfInBounds i true) (a.put oi.dst v) w) (hs : Region.noSelect ops = true := by kernel_rfl) (hf : Region.free md ops l i = true := by kernel_rfl) (hr : (Region.ready md ops l).contains i = true := by kernel_rfl) (hL : chainN md ops l i 16 L = true := by kernel_rfl) (hQ : ∀ c a w, Q (.panic c) (a.put oi.dst v) w → Q (.panic c) a w := by exact fun _ _ _ h => h) (hS : S w := by assumption) (hy : ∀ w, (execOp a.eval oi).run P w = .ok (.value v) w := by intro _; rfl) : wpAnyE P md ops Q S L (n + 1) l a w := wpAnyF_pure i hi0 hs hf hr hL hQ hg hy hS h
theorem fC (i : Nat) {oi : Oper} {v : Value} {n : Nat} {l : Array Bool} {a : Act} {w : World} (hi0 : ops.toList[i]? = some oi) (hg : oi.guard = none) (hy : ∀ w, S w → (execOp a.eval oi).run P w = .ok (.value v) w) (h : wpAnyE P md ops Q S L n (l.setIfInBounds i true) (a.put oi.dst v) w) (hs : Region.noSelect ops = true := by kernel_rfl) (hf : Region.free md ops l i = true := by kernel_rfl) (hr : (Region.ready md ops l).contains i = true := by kernel_rfl) (hL : chainN md ops l i 16 L = true := by kernel_rfl) (hQ : ∀ c a w, Q (.panic c) (a.put oi.dst v) w → Q (.panic c) a w := by exact fun _ _ _ h => h) (hS : S w := by assumption) : wpAnyE P md ops Q S L (n + 1) l a w := wpAnyF_cell i hi0 hg hy hs hf hr hL hQ hS h
theorem fL (i : Nat) {oi : Oper} {n : Nat} {l : Array Bool} {a : Act} {w : World} (ty : TypeId) (x : Operand) (hi0 : ops.toList[i]? = some oi) (ho : oi.op = .load ty x) (hg : oi.guard = none) (g o : Nat) (hx : a.eval x = .pointer (some ⟨g, o, none⟩)) (vs : Array Value) (d : TypeDesc) (hR : ∀ w, S w → w.rangeAt g o vs.toList) (hu : P.underlying ty = some d) (hd : d.isRow = true) (h : wpAnyE P md ops Q S L n (l.setIfInBounds i true) (a.put oi.dst (.agg vs)) w) (hz : (P.info? ty).map (·.size) = some vs.size := by kernel_rfl) (hs : Region.noSelect ops = true := by kernel_rfl) (hf : Region.free md ops l i = true := by kernel_rfl) (hr : (Region.ready md ops l).contains i = true := by kernel_rfl) (hL : chainN md ops l i 16 L = true := by kernel_rfl) (hQ : ∀ c a w, Q (.panic c) (a.put oi.dst (.agg vs)) w → Q (.panic c) a w := by exact fun _ _ _ h => h) (hS : S w := by assumption) : wpAnyE P md ops Q S L (n + 1) l a w := wpAnyF_load i ty x hi0 ho hg g o hx vs d hR hu hd hz hs hf hr hL hQ hS h
end
theorem rEdit_any (base : Nat) (o : SpO) (m : SqM) (R : RqV) (s : StO) (w : World) (h : RQ w base o m R) (hs : s.ok w m.imm) (hd : R.d ≤ R.E.length) (he : R.E.length ≤ 100) :
    Calls Tryz.prog 51 #[ptr m.q, .agg #[.slice s.A s.L.length s.c, .int .i64 (s.p : Int)]] w fun en w' => en = .returned (.tuple #[]) ∧ ∃ EA ec, RQ w' base o (m.re EA ec) (R.edit s) ∧ Foot m (m.re EA ec) w w' := by
  have H : Sl _ := ⟨h⟩; have HS : Sl _ := ⟨hs⟩; obtain ⟨q, hq⟩ : ∃ q, m.q = q := ⟨_, rfl⟩; obtain ⟨n, hn⟩ : ∃ n, R.E.length = n := ⟨_, rfl⟩; obtain ⟨d, hdd⟩ : ∃ d, R.d = d := ⟨_, rfl⟩; have HQ : Sl (m.q = q ∧ R.E.length = n ∧ R.d = d) := ⟨⟨hq, hn, hdd⟩⟩; have HDN : Sl (d ≤ n ∧ n ≤ 100) := ⟨by omega⟩; have hcap := h.ed.cap; have hd0 : (0 : Int) ≤ (d : Int) := (by omega); have hdn : (d : Int) ≤ (n : Int) := (by omega); have hdc : (d : Int) ≤ (m.ec : Int) := (by omega); have hd100 : (d : Int) ≤ 100 := (by omega); rw [hq]; clear h hs hd he hq hn hdd hcap; go_enter Tryz.func51, Tryz.ntmps51
  go_upto_region 1 with ((with_reducible show wpList _ _ _ _ _ _); first
    | (refine wpList_box_new 3 rfl rfl 38 (.tmp 1) rfl #[.slice s.A s.L.length s.c, .int .i64 (s.p : Int)] rfl (fun _ => by kernel_rfl) ?_; rintro w1 g3 zg zm zs zb; have HW1 : Sl (Below w.heap.size w w1) := ⟨below_mv (Below.refl _ _) zm (Nat.le_refl _) (Nat.le_refl _)⟩; have HG0 : Sl _ := ⟨And.intro zb zg⟩; clear zg zm zs zb))
  have HB : Sl (Blk w1 q 41 (rqK o R.N m.EA n m.ec d)) := ⟨by have hb := (H.out.below HW1.out).blk; rw [rqC_k, HQ.out.1, HQ.out.2.1, HQ.out.2.2] at hb; exact hb⟩; have HG3 : Sl (Blk w1 g3 38 #[.slice s.A s.L.length s.c, .int .i64 (s.p : Int)] ∧ g3 ≠ q) := ⟨⟨HG0.out.1, by have h1 := HG0.out.2; have h2 := H.out.blk.lt; rw [HQ.out.1] at h2; omega⟩⟩; have HEG : Sl (RowG w1 m.EA n 4 edR R.E) := ⟨by have h := ((H.out.below HW1.out).ed).rowG rfl; rw [HQ.out.2.1] at h; exact h⟩; clear HG0; simp only [pS]
  go_cut [] from 4 to 24 (fun wx => ∃ AD cD, Sl (Blk wx q 41 (rqK o R.N AD (d + 1) cD d) ∧ wx.ownsRow w1.heap.size 114 4 (.slice AD (d + 1) cD) (d + 1) ((R.E.take d ++ [(R.N, so0)]).flatMap edR) ∧ Blk wx g3 38 #[.slice s.A s.L.length s.c, .int .i64 (s.p : Int)] ∧ MvP (fun i => i = q) w wx))
  case first =>
    have hm0 : Below w1.heap.size w1 w1.drew := below_drewN (Below.refl _ _) 1; have HSW : Sl _ := ⟨hm0⟩; have HQD : Sl (∀ W, Below w1.heap.size w1 W → Blk W q 41 (rqK o R.N m.EA n m.ec d)) := ⟨fun W hW => HB.out.below hW HB.out.lt⟩; have hm := hm0; refine wp_region_E (S := fun w' => Below w1.heap.size w1 w') 21 (by kernel_rfl) hm (fun hHeld => ?_); clear hm; refine fM 0 (v := ptr q) rfl rfl ?_; simp only [pS]; refine fM 2 (v := ptr q) rfl rfl ?_; simp only [pS]; refine fS 3 (v := ptr q) rfl rfl ?_; simp only [pS]; refine fS 4 (v := .pointer (some ⟨q, 6, none⟩)) rfl rfl ?_; simp only [pS]
    refine fC 5 (v := .slice m.EA n m.ec) rfl rfl (fun w' h => by
      have hc : w'.cell? ⟨q, 6, none⟩ = some (.slice m.EA n m.ec) := (HQD.out w' h).cell 6
      go_simp) ?_
    simp only [pS]; refine fM 6 (v := ptr q) rfl rfl ?_; simp only [pS]; refine fS 7 (v := ptr q) rfl rfl ?_; simp only [pS]; refine fS 8 (v := .pointer (some ⟨q, 7, none⟩)) rfl rfl ?_; simp only [pS]
    refine fC 9 (v := .int .i64 (d : Int)) rfl rfl (fun w' h => by
      have hc : w'.cell? ⟨q, 7, none⟩ = some (.int .i64 (d : Int)) := (HQD.out w' h).cell 7
      go_simp) ?_
    simp only [pS]; refine fS 10 (v := .slice m.EA d m.ec) rfl rfl ?_; simp only [pS]; refine fM 12 (v := ptr q) rfl rfl ?_; simp only [pS]; refine fS 13 (v := ptr q) rfl rfl ?_; simp only [pS]; refine fS 14 (v := .pointer (some ⟨q, 4, none⟩)) rfl rfl ?_; simp only [pS]; refine fL 15 38 (.tmp 18) rfl rfl rfl q (4) rfl #[.slice R.N.A R.N.L.length R.N.c, .int .i64 (R.N.p : Int)] _ (fun w' h => by have := World.rangeAt_of_block (HQD.out w' h) 4 2; exact this) Tryz.underlying38 rfl ?_; simp only [pS]; refine fS 16 (v := .agg #[.slice R.N.A R.N.L.length R.N.c, .int .i64 (R.N.p : Int), .slice none 0 0, .int .i64 0]) rfl rfl ?_; simp only [pS]; refine wpAnyE_two 1 17 rfl rfl (by kernel_rfl) rfl rfl (fun K hK => ?_) (fun K hK => ?_)
    · skip; refine wp_of_runc (.slice (some ⟨w1.drew.heap.size, 0, none⟩) 0 0) (w1.drew.alloc (.cells #[] 114)) (by kernel_rfl) ?_; have zb : Below w1.drew.heap.size w1.drew (w1.drew.alloc (.cells #[] 114)) := (Below.refl _ _).alloc (Nat.le_refl _) _; have zk := Blk.new w1.drew 114 #[]; refine hK.out _ _ (fun _ => HSW.out.trans (zb.mono HSW.out.size)) (fun hHeld => ?_); clear hK K; simp only [pS]; generalize w1.drew.alloc (.cells #[] 114) = z1 at *
      obtain ⟨gA, hg⟩ : ∃ g, w1.drew.heap.size = g := ⟨_, rfl⟩; have GA : Sl (w1.heap.size ≤ gA) := ⟨by rw [← hg]; exact HSW.out.size⟩; replace HSW : Sl (Below w1.heap.size w1 z1) := ⟨HSW.out.trans (zb.mono HSW.out.size)⟩; rw [hg] at zk; rw [hg]; have XA : Sl (Blk z1 gA 114 #[]) := ⟨zk⟩; clear zb zk hg; refine wpAnyE_two 11 17 rfl rfl (by kernel_rfl) rfl rfl (fun K hK => ?_) (fun K hK => ?_)
      · skip; refine wp_append_g edR (.tmp 5) (.tmp 14) 39 114 rfl 4 64 _ Tryz.underlying39 infoEd rfl (by decide) (by decide) oneEd w1.heap.size (some ⟨gA, 0, none⟩) 0 0 [] rfl (own_mt _ _ _ _ _ XA.out GA.out) m.EA d m.ec (R.E.take d) rfl ((HEG.out.below HSW.out).take HDN.out.1).rd (by have := HDN.out; omega) HSW.out.size ?_; rintro AC cC z2 zo zg zt; rw [Nat.zero_add, List.nil_append] at zo; rw [Nat.zero_add]; have hbm : Below w1.heap.size w1 z2 := below_grown HSW.out zg HSW.out.size (fun q' hq => (own_lt2 (own_mt _ _ _ 4 _ XA.out GA.out) hq).1); have OC : Sl (z2.ownsRow w1.heap.size 114 4 (.slice AC d cC) d ((R.E.take d).flatMap edR)) := ⟨zo⟩; replace HSW : Sl (Below w1.heap.size w1 z2) := ⟨hbm⟩; refine hK.out _ _ (fun _ => HSW.out) (fun hHeld => ?_); clear hK K zo zg zt hbm XA; simp only [pS]; refine eO 17 rfl rfl fun K hK => ?_; refine wp_of_runc (.slice (some ⟨z2.heap.size, 0, none⟩) 1 1) (z2.alloc (.cells #[.slice R.N.A R.N.L.length R.N.c, .int .i64 (R.N.p : Int), .slice none 0 0, .int .i64 0] 114)) (by kernel_rfl) ?_; have zb : Below z2.heap.size z2 (z2.alloc (.cells #[.slice R.N.A R.N.L.length R.N.c, .int .i64 (R.N.p : Int), .slice none 0 0, .int .i64 0] 114)) := (Below.refl _ _).alloc (Nat.le_refl _) _; have zk := Blk.new z2 114 #[.slice R.N.A R.N.L.length R.N.c, .int .i64 (R.N.p : Int), .slice none 0 0, .int .i64 0]; refine hK.out _ _ (fun _ => HSW.out.trans (zb.mono HSW.out.size)) (fun hHeld => ?_); clear hK K; simp only [pS]; generalize z2.alloc (.cells #[.slice R.N.A R.N.L.length R.N.c, .int .i64 (R.N.p : Int), .slice none 0 0, .int .i64 0] 114) = z3 at *
        obtain ⟨gB, hg⟩ : ∃ g, z2.heap.size = g := ⟨_, rfl⟩; have GB : Sl (w1.heap.size ≤ gB) := ⟨by rw [← hg]; exact HSW.out.size⟩; replace OC : Sl (z3.ownsRow w1.heap.size 114 4 (.slice AC d cC) d ((R.E.take d).flatMap edR)) := ⟨(MvP.of_below zb).own OC.out (fun _ _ e => e)⟩; replace HSW : Sl (Below w1.heap.size w1 z3) := ⟨HSW.out.trans (zb.mono HSW.out.size)⟩; rw [hg] at zk; rw [hg]; have XB : Sl (Blk z3 gB 114 #[.slice R.N.A R.N.L.length R.N.c, .int .i64 (R.N.p : Int), .slice none 0 0, .int .i64 0]) := ⟨zk⟩; clear zb zk hg; refine eO 18 rfl rfl fun K hK => ?_; have hrw : RowG z3 (some ⟨gB, 0, none⟩) 1 4 edR [(R.N, so0)] := RowG.of_blk XB.out edR_len rfl rfl; refine wp_append_g edR (.tmp 15) (.tmp 21) 39 114 rfl 4 64 _ Tryz.underlying39 infoEd rfl (by decide) (by decide) oneEd w1.heap.size AC d cC (R.E.take d) rfl OC.out (some ⟨gB, 0, none⟩) 1 1 [(R.N, so0)] rfl hrw.rd (by have := HDN.out; omega) HSW.out.size ?_; rintro AD cD z4 zo zg zt; have hbm : Below w1.heap.size w1 z4 := below_grown HSW.out zg HSW.out.size (fun q' hq => (own_lt2 OC.out hq).1); have OD : Sl (z4.ownsRow w1.heap.size 114 4 (.slice AD (d + 1) cD) (d + 1) ((R.E.take d ++ [(R.N, so0)]).flatMap edR)) := ⟨zo⟩; replace HSW : Sl (Below w1.heap.size w1 z4) := ⟨hbm⟩; refine hK.out _ _ (fun _ => HSW.out) (fun hHeld => ?_); clear hK K zo zg zt hbm XB OC hrw; simp only [pS]; have hS4 := HSW.out; refine eS 19 (v := ptr q) rfl rfl ?_; simp only [pS]; refine eS 20 (v := .pointer (some ⟨q, 6, none⟩)) rfl rfl ?_; simp only [pS]; refine eO 21 rfl rfl fun K hK => ?_; have hB := HB.out.below HSW.out HB.out.lt; refine wp_store_celm 39 (.tmp 24) (.tmp 22) rfl q 6 (.slice AD (d + 1) cD) rfl rfl 41 _ (rqK o R.N AD (d + 1) cD d) hB (by simp [rqK]) rfl (by kernel_rfl) rfl rfl ?_; intro z5 zm zs zb; have hgq : g3 ≠ q := HG3.out.2; have h3 : Blk z5 g3 38 #[.slice s.A s.L.length s.c, .int .i64 (s.p : Int)] := (HG3.out.1.below HSW.out HG3.out.1.lt).mv zm hgq; have OE : Sl (z5.ownsRow w1.heap.size 114 4 (.slice AD (d + 1) cD) (d + 1) ((R.E.take d ++ [(R.N, so0)]).flatMap edR)) := ⟨own_mv OD.out zm (fun k hk e => by have := (own_lt2 OD.out hk).1; have := HB.out.lt; omega)⟩; have hmv : MvP (fun i => i = q) w z5 := ((MvP.of_below (HW1.out.trans (HSW.out.mono HW1.out.size))).mono (fun _ e => e.elim)).trans (MvP.of_mv zm); refine hK.out _ _ (fun h => absurd rfl h) (fun hHeld => ?_); clear hK K
        (try simp only [pS])
        refine wpAnyE_done (by kernel_rfl) ?_ _
        (try go_wp2_with fail)
        go_meet
        exact ⟨AD, cD, ⟨zb, OE.out, h3, hmv⟩⟩
      · skip; refine wp_of_runc (.slice (some ⟨z1.heap.size, 0, none⟩) 1 1) (z1.alloc (.cells #[.slice R.N.A R.N.L.length R.N.c, .int .i64 (R.N.p : Int), .slice none 0 0, .int .i64 0] 114)) (by kernel_rfl) ?_; have zb : Below z1.heap.size z1 (z1.alloc (.cells #[.slice R.N.A R.N.L.length R.N.c, .int .i64 (R.N.p : Int), .slice none 0 0, .int .i64 0] 114)) := (Below.refl _ _).alloc (Nat.le_refl _) _; have zk := Blk.new z1 114 #[.slice R.N.A R.N.L.length R.N.c, .int .i64 (R.N.p : Int), .slice none 0 0, .int .i64 0]; refine hK.out _ _ (fun _ => HSW.out.trans (zb.mono HSW.out.size)) (fun hHeld => ?_); clear hK K; simp only [pS]; generalize z1.alloc (.cells #[.slice R.N.A R.N.L.length R.N.c, .int .i64 (R.N.p : Int), .slice none 0 0, .int .i64 0] 114) = z6 at *
        obtain ⟨gB, hg⟩ : ∃ g, z1.heap.size = g := ⟨_, rfl⟩; have GB : Sl (w1.heap.size ≤ gB) := ⟨by rw [← hg]; exact HSW.out.size⟩; replace XA : Sl (Blk z6 gA 114 #[]) := ⟨XA.out.below zb XA.out.lt⟩; replace HSW : Sl (Below w1.heap.size w1 z6) := ⟨HSW.out.trans (zb.mono HSW.out.size)⟩; rw [hg] at zk; rw [hg]; have XB : Sl (Blk z6 gB 114 #[.slice R.N.A R.N.L.length R.N.c, .int .i64 (R.N.p : Int), .slice none 0 0, .int .i64 0]) := ⟨zk⟩; clear zb zk hg; have GN : Sl (gA ≠ gB) := ⟨fun e => by have h1 := XA.out; have h2 := XB.out; rw [e] at h1; unfold Blk at h1 h2; rw [h1] at h2; injection h2 with h2; injection h2 with h2 _; cases h2⟩; refine eO 11 rfl rfl fun K hK => ?_; refine wp_append_g edR (.tmp 5) (.tmp 14) 39 114 rfl 4 64 _ Tryz.underlying39 infoEd rfl (by decide) (by decide) oneEd w1.heap.size (some ⟨gA, 0, none⟩) 0 0 [] rfl (own_mt _ _ _ _ _ XA.out GA.out) m.EA d m.ec (R.E.take d) rfl ((HEG.out.below HSW.out).take HDN.out.1).rd (by have := HDN.out; omega) HSW.out.size ?_; rintro AC cC z7 zo zg zt; rw [Nat.zero_add, List.nil_append] at zo; rw [Nat.zero_add]; have hbm : Below w1.heap.size w1 z7 := below_grown HSW.out zg HSW.out.size (fun q' hq => (own_lt2 (own_mt _ _ _ 4 _ XA.out GA.out) hq).1); replace XB : Sl (Blk z7 gB 114 #[.slice R.N.A R.N.L.length R.N.c, .int .i64 (R.N.p : Int), .slice none 0 0, .int .i64 0]) := ⟨blk_grown XB.out zg (fun e => GN.out (by injection e))⟩; have OC : Sl (z7.ownsRow w1.heap.size 114 4 (.slice AC d cC) d ((R.E.take d).flatMap edR)) := ⟨zo⟩; replace HSW : Sl (Below w1.heap.size w1 z7) := ⟨hbm⟩; refine hK.out _ _ (fun _ => HSW.out) (fun hHeld => ?_); clear hK K zo zg zt hbm XA; simp only [pS]; refine eO 18 rfl rfl fun K hK => ?_; have hrw : RowG z7 (some ⟨gB, 0, none⟩) 1 4 edR [(R.N, so0)] := RowG.of_blk XB.out edR_len rfl rfl; refine wp_append_g edR (.tmp 15) (.tmp 21) 39 114 rfl 4 64 _ Tryz.underlying39 infoEd rfl (by decide) (by decide) oneEd w1.heap.size AC d cC (R.E.take d) rfl OC.out (some ⟨gB, 0, none⟩) 1 1 [(R.N, so0)] rfl hrw.rd (by have := HDN.out; omega) HSW.out.size ?_; rintro AD cD z8 zo zg zt; have hbm : Below w1.heap.size w1 z8 := below_grown HSW.out zg HSW.out.size (fun q' hq => (own_lt2 OC.out hq).1); have OD : Sl (z8.ownsRow w1.heap.size 114 4 (.slice AD (d + 1) cD) (d + 1) ((R.E.take d ++ [(R.N, so0)]).flatMap edR)) := ⟨zo⟩; replace HSW : Sl (Below w1.heap.size w1 z8) := ⟨hbm⟩; refine hK.out _ _ (fun _ => HSW.out) (fun hHeld => ?_); clear hK K zo zg zt hbm XB OC hrw; simp only [pS]; have hS4 := HSW.out; refine eS 19 (v := ptr q) rfl rfl ?_; simp only [pS]; refine eS 20 (v := .pointer (some ⟨q, 6, none⟩)) rfl rfl ?_
        simp only [pS]; refine eO 21 rfl rfl fun K hK => ?_; have hB := HB.out.below HSW.out HB.out.lt; refine wp_store_celm 39 (.tmp 24) (.tmp 22) rfl q 6 (.slice AD (d + 1) cD) rfl rfl 41 _ (rqK o R.N AD (d + 1) cD d) hB (by simp [rqK]) rfl (by kernel_rfl) rfl rfl ?_; intro z9 zm zs zb; have hgq : g3 ≠ q := HG3.out.2; have h3 : Blk z9 g3 38 #[.slice s.A s.L.length s.c, .int .i64 (s.p : Int)] := (HG3.out.1.below HSW.out HG3.out.1.lt).mv zm hgq; have OE : Sl (z9.ownsRow w1.heap.size 114 4 (.slice AD (d + 1) cD) (d + 1) ((R.E.take d ++ [(R.N, so0)]).flatMap edR)) := ⟨own_mv OD.out zm (fun k hk e => by have := (own_lt2 OD.out hk).1; have := HB.out.lt; omega)⟩; have hmv : MvP (fun i => i = q) w z9 := ((MvP.of_below (HW1.out.trans (HSW.out.mono HW1.out.size))).mono (fun _ e => e.elim)).trans (MvP.of_mv zm); refine hK.out _ _ (fun h => absurd rfl h) (fun hHeld => ?_); clear hK K
        (try simp only [pS])
        refine wpAnyE_done (by kernel_rfl) ?_ _
        (try go_wp2_with fail)
        go_meet
        exact ⟨AD, cD, ⟨zb, OE.out, h3, hmv⟩⟩
    · skip; refine wp_of_runc (.slice (some ⟨w1.drew.heap.size, 0, none⟩) 1 1) (w1.drew.alloc (.cells #[.slice R.N.A R.N.L.length R.N.c, .int .i64 (R.N.p : Int), .slice none 0 0, .int .i64 0] 114)) (by kernel_rfl) ?_; have zb : Below w1.drew.heap.size w1.drew (w1.drew.alloc (.cells #[.slice R.N.A R.N.L.length R.N.c, .int .i64 (R.N.p : Int), .slice none 0 0, .int .i64 0] 114)) := (Below.refl _ _).alloc (Nat.le_refl _) _; have zk := Blk.new w1.drew 114 #[.slice R.N.A R.N.L.length R.N.c, .int .i64 (R.N.p : Int), .slice none 0 0, .int .i64 0]; refine hK.out _ _ (fun _ => HSW.out.trans (zb.mono HSW.out.size)) (fun hHeld => ?_); clear hK K; simp only [pS]; generalize w1.drew.alloc (.cells #[.slice R.N.A R.N.L.length R.N.c, .int .i64 (R.N.p : Int), .slice none 0 0, .int .i64 0] 114) = z10 at *
      obtain ⟨gB, hg⟩ : ∃ g, w1.drew.heap.size = g := ⟨_, rfl⟩; have GB : Sl (w1.heap.size ≤ gB) := ⟨by rw [← hg]; exact HSW.out.size⟩; replace HSW : Sl (Below w1.heap.size w1 z10) := ⟨HSW.out.trans (zb.mono HSW.out.size)⟩; rw [hg] at zk; rw [hg]; have XB : Sl (Blk z10 gB 114 #[.slice R.N.A R.N.L.length R.N.c, .int .i64 (R.N.p : Int), .slice none 0 0, .int .i64 0]) := ⟨zk⟩; clear zb zk hg; refine eO 1 rfl rfl fun K hK => ?_; refine wp_of_runc (.slice (some ⟨z10.heap.size, 0, none⟩) 0 0) (z10.alloc (.cells #[] 114)) (by kernel_rfl) ?_; have zb : Below z10.heap.size z10 (z10.alloc (.cells #[] 114)) := (Below.refl _ _).alloc (Nat.le_refl _) _; have zk := Blk.new z10 114 #[]; refine hK.out _ _ (fun _ => HSW.out.trans (zb.mono HSW.out.size)) (fun hHeld => ?_); clear hK K; simp only [pS]; generalize z10.alloc (.cells #[] 114) = z11 at *
      obtain ⟨gA, hg⟩ : ∃ g, z10.heap.size = g := ⟨_, rfl⟩; have GA : Sl (w1.heap.size ≤ gA) := ⟨by rw [← hg]; exact HSW.out.size⟩; replace XB : Sl (Blk z11 gB 114 #[.slice R.N.A R.N.L.length R.N.c, .int .i64 (R.N.p : Int), .slice none 0 0, .int .i64 0]) := ⟨XB.out.below zb XB.out.lt⟩; replace HSW : Sl (Below w1.heap.size w1 z11) := ⟨HSW.out.trans (zb.mono HSW.out.size)⟩; rw [hg] at zk; rw [hg]; have XA : Sl (Blk z11 gA 114 #[]) := ⟨zk⟩; clear zb zk hg; have GN : Sl (gA ≠ gB) := ⟨fun e => by have h1 := XA.out; have h2 := XB.out; rw [e] at h1; unfold Blk at h1 h2; rw [h1] at h2; injection h2 with h2; injection h2 with h2 _; cases h2⟩; refine eO 11 rfl rfl fun K hK => ?_; refine wp_append_g edR (.tmp 5) (.tmp 14) 39 114 rfl 4 64 _ Tryz.underlying39 infoEd rfl (by decide) (by decide) oneEd w1.heap.size (some ⟨gA, 0, none⟩) 0 0 [] rfl (own_mt _ _ _ _ _ XA.out GA.out) m.EA d m.ec (R.E.take d) rfl ((HEG.out.below HSW.out).take HDN.out.1).rd (by have := HDN.out; omega) HSW.out.size ?_; rintro AC cC z12 zo zg zt; rw [Nat.zero_add, List.nil_append] at zo; rw [Nat.zero_add]; have hbm : Below w1.heap.size w1 z12 := below_grown HSW.out zg HSW.out.size (fun q' hq => (own_lt2 (own_mt _ _ _ 4 _ XA.out GA.out) hq).1); replace XB : Sl (Blk z12 gB 114 #[.slice R.N.A R.N.L.length R.N.c, .int .i64 (R.N.p : Int), .slice none 0 0, .int .i64 0]) := ⟨blk_grown XB.out zg (fun e => GN.out (by injection e))⟩; have OC : Sl (z12.ownsRow w1.heap.size 114 4 (.slice AC d cC) d ((R.E.take d).flatMap edR)) := ⟨zo⟩; replace HSW : Sl (Below w1.heap.size w1 z12) := ⟨hbm⟩; refine hK.out _ _ (fun _ => HSW.out) (fun hHeld => ?_); clear hK K zo zg zt hbm XA; simp only [pS]; refine eO 18 rfl rfl fun K hK => ?_; have hrw : RowG z12 (some ⟨gB, 0, none⟩) 1 4 edR [(R.N, so0)] := RowG.of_blk XB.out edR_len rfl rfl; refine wp_append_g edR (.tmp 15) (.tmp 21) 39 114 rfl 4 64 _ Tryz.underlying39 infoEd rfl (by decide) (by decide) oneEd w1.heap.size AC d cC (R.E.take d) rfl OC.out (some ⟨gB, 0, none⟩) 1 1 [(R.N, so0)] rfl hrw.rd (by have := HDN.out; omega) HSW.out.size ?_; rintro AD cD z13 zo zg zt; have hbm : Below w1.heap.size w1 z13 := below_grown HSW.out zg HSW.out.size (fun q' hq => (own_lt2 OC.out hq).1); have OD : Sl (z13.ownsRow w1.heap.size 114 4 (.slice AD (d + 1) cD) (d + 1) ((R.E.take d ++ [(R.N, so0)]).flatMap edR)) := ⟨zo⟩; replace HSW : Sl (Below w1.heap.size w1 z13) := ⟨hbm⟩; refine hK.out _ _ (fun _ => HSW.out) (fun hHeld => ?_); clear hK K zo zg zt hbm XB OC hrw; simp only [pS]; have hS4 := HSW.out; refine eS 19 (v := ptr q) rfl rfl ?_; simp only [pS]; refine eS 20 (v := .pointer (some ⟨q, 6, none⟩)) rfl rfl ?_
      simp only [pS]; refine eO 21 rfl rfl fun K hK => ?_; have hB := HB.out.below HSW.out HB.out.lt; refine wp_store_celm 39 (.tmp 24) (.tmp 22) rfl q 6 (.slice AD (d + 1) cD) rfl rfl 41 _ (rqK o R.N AD (d + 1) cD d) hB (by simp [rqK]) rfl (by kernel_rfl) rfl rfl ?_; intro z14 zm zs zb; have hgq : g3 ≠ q := HG3.out.2; have h3 : Blk z14 g3 38 #[.slice s.A s.L.length s.c, .int .i64 (s.p : Int)] := (HG3.out.1.below HSW.out HG3.out.1.lt).mv zm hgq; have OE : Sl (z14.ownsRow w1.heap.size 114 4 (.slice AD (d + 1) cD) (d + 1) ((R.E.take d ++ [(R.N, so0)]).flatMap edR)) := ⟨own_mv OD.out zm (fun k hk e => by have := (own_lt2 OD.out hk).1; have := HB.out.lt; omega)⟩; have hmv : MvP (fun i => i = q) w z14 := ((MvP.of_below (HW1.out.trans (HSW.out.mono HW1.out.size))).mono (fun _ e => e.elim)).trans (MvP.of_mv zm); refine hK.out _ _ (fun h => absurd rfl h) (fun hHeld => ?_); clear hK K
      (try simp only [pS])
      refine wpAnyE_done (by kernel_rfl) ?_ _
      (try go_wp2_with fail)
      go_meet
      exact ⟨AD, cD, ⟨zb, OE.out, h3, hmv⟩⟩
  case rest =>
    obtain ⟨AD, cD, HC⟩ := hcut; have HGQ : Sl (g3 ≠ q) := ⟨HG3.out.2⟩; have HB1 : Sl (base ≤ w1.heap.size ∧ q < w1.heap.size) := ⟨by have h1 := H.out.qb; have h2 := (H.out.below HW1.out).blk.lt; rw [HQ.out.1] at h1 h2; omega⟩; have HTL : Sl ((R.E.take d ++ [(R.N, so0)]).length = d + 1) := ⟨by rw [List.length_append, List.length_take, HQ.out.2.1]; have := HDN.out; simp; omega⟩
    obtain ⟨g2, rfl, hc2, hc3⟩ : ∃ g2, AD = some ⟨g2, 0, none⟩ ∧ d + 1 ≤ cD ∧ cD ≤ 9223372036854775807 := by
      rcases own_some HC.out.2.1 with ⟨_, h0, _⟩ | ⟨g, h1, h2, h3⟩
      · omega
      · exact ⟨g, h1, h2, h3⟩
    have HG2Q : Sl (g2 ≠ q ∧ w.heap.size ≤ g2) := ⟨by have h1 := (own_lt2 HC.out.2.1 (show _ = some g2 from rfl)).1; have := HB1.out; have := HW1.out.size; omega⟩
    have HEV : Sl (∀ e ∈ R.E.take d ++ [(R.N, so0)], e.1.ok w m.imm ∧ e.2.ok w m.imm) := ⟨fun e he => by
      rcases List.mem_append.1 he with he | he
      · exact H.out.ev e (List.mem_of_mem_take he)
      · rw [List.mem_singleton.1 he]; exact ⟨H.out.nw, so0_ok _ _⟩⟩
    have HED : Sl (R.edit s = ⟨s, trim (R.E.take d ++ [(R.N, so0)]), (trim (R.E.take d ++ [(R.N, so0)])).length⟩) := ⟨by unfold RqV.edit; rw [HQ.out.2.2]⟩; have c6 : wc.cell? ⟨q, 6, none⟩ = some (.slice (some ⟨g2, 0, none⟩) (d + 1) cD) := HC.out.1.cell 6; have hcI : (d : Int) + 1 ≤ (cD : Int) := (by omega); have hc9 : (cD : Int) ≤ 9223372036854775807 := (by omega)
    by_cases hbig : 100 < d + 1
    · have hbd : decide ((100 : Int) < (d : Int) + 1) = true := decide_eq_true (by omega); have hbI : (100 : Int) < (d : Int) + 1 := (by omega); have hc1 : ¬ cD = 1 := (by omega); have hTR : trim (R.E.take d ++ [(R.N, so0)]) = (R.E.take d ++ [(R.N, so0)]).drop 1 := (by unfold trim; rw [if_pos (by rw [HTL.out]; exact hbig)]); have HTR : Sl _ := ⟨hTR⟩; clear hTR hc2
      go_upto_region 4 with ((with_reducible show wpList _ _ _ _ _ _); (refine wpList_store_cell rfl 39 (.tmp 38) (.tmp 36) rfl q 6 (.slice (some ⟨g2, 4, none⟩) d (cD - 1)) rfl rfl 41 _ (rqK o R.N (some ⟨g2, 4, none⟩) d (cD - 1) d) HC.out.1 (by simp [rqK]) rfl (by kernel_rfl) rfl rfl ?_; rintro wy zm zs zb zw; have HZ6 : Sl _ := ⟨And.intro zm zb⟩; clear zm zs zb zw))
      clear c6; have HK : Sl (Blk wy q 41 (rqK o R.N (some ⟨g2, 4, none⟩) d (cD - 1) d) ∧ Blk wy g3 38 #[.slice s.A s.L.length s.c, .int .i64 (s.p : Int)] ∧ MvP (fun i => i = q) w wy) := ⟨⟨HZ6.out.2, HC.out.2.2.1.mv HZ6.out.1 HGQ.out, HC.out.2.2.2.trans (MvP.of_mv HZ6.out.1)⟩⟩; have HOW : Sl (wy.ownsRow w1.heap.size 114 4 (.slice (some ⟨g2, 0, none⟩) (d + 1) cD) (d + 1) ((R.E.take d ++ [(R.N, so0)]).flatMap edR)) := ⟨own_mv HC.out.2.1 HZ6.out.1 (fun k hk e => by injection hk with hk; have h1 := HG2Q.out.1; have hk : g2 = k := hk; omega)⟩; have c6 : wy.cell? ⟨q, 6, none⟩ = some (.slice (some ⟨g2, 4, none⟩) (d) (cD - 1)) := HK.out.1.cell 6
      go_upto_region 5 with ((with_reducible show wpList _ _ _ _ _ _); (refine wpList_store_cell rfl 3 (.tmp 46) (.tmp 44) rfl q 7 (.int .i64 ((d : Nat) : Int)) rfl rfl 41 _ (rqK o R.N (some ⟨g2, 4, none⟩) (d) (cD - 1) (d)) HK.out.1 (by simp [rqK]) rfl (by kernel_rfl) rfl rfl ?_; rintro w7 zm zs zb zw; have HZ7 : Sl _ := ⟨And.intro zm zb⟩; clear zm zs zb zw))
      have HG7 : Sl (Blk w7 g3 38 #[.slice s.A s.L.length s.c, .int .i64 (s.p : Int)]) := ⟨HK.out.2.1.mv HZ7.out.1 HGQ.out⟩; clear c6
      go_wp2_with ((with_reducible show wpList _ _ _ _ _ _); first
        | (refine wpList_load_whole rfl 38 (.tmp 3) rfl g3 rfl 38 _ _ HG7.out Tryz.underlying38 rfl (by kernel_rfl) ?_)
        | (refine wpList_store_part rfl 38 (.tmp 50) (.tmp 48) rfl q 4 #[.slice s.A s.L.length s.c, .int .i64 (s.p : Int)] rfl rfl 41 _ (rqK o s (some ⟨g2, 4, none⟩) (d) (cD - 1) (d)) HZ7.out.2 (by simp [rqK]) rfl (by kernel_rfl) (by simp [Value.oneCell']) ?_; rintro w9 zm zs zb; have HZ9 : Sl _ := ⟨And.intro zm zb⟩; clear zm zs zb))
      go_end0; have hm9 : MvP (fun i => i = q) w w9 := HK.out.2.2.trans ((MvP.of_mv HZ7.out.1).trans (MvP.of_mv HZ9.out.1)); have hm79 : MvP (fun i => i = q) wy w9 := (MvP.of_mv HZ7.out.1).trans (MvP.of_mv HZ9.out.1); have he := ((ERow.of_own (own_low HOW.out HB1.out.1) (edR_one _)).keep hm79 (fun i hi e => by obtain ⟨ad, e1, e2⟩ := hi; injection e1 with e1; subst e1; exact HG2Q.out.1 (e2.trans e))).drop1 (by omega)
      have hres := H.out.edits (w' := w9) (EA := some ⟨g2, 4, none⟩) (ec := cD - 1) (s := s) (E := trim (R.E.take d ++ [(R.N, so0)])) (d := (trim (R.E.take d ++ [(R.N, so0)])).length)
        (by rw [rqC_k, HQ.out.1, HTR.out, List.length_drop, HTL.out, Nat.add_sub_cancel]; exact HZ9.out.2)
        (by rw [HTR.out, List.length_drop, HTL.out]; rw [← fm_drop edR 4 edR_len]; exact he)
        (hm9.mono fun i e => .inl (e.trans HQ.out.1.symm)) (fun i hi => by obtain ⟨ad, e1, e2⟩ := hi; injection e1 with e1; subst e1; exact .inr (by have := HG2Q.out.2; have e2 : g2 = i := e2; omega)) HS.out (fun e he => HEV.out e (mem_trim he))
      exact ⟨rfl, _, _, by rw [HED.out]; exact hres.1, hres.2⟩
    · have hbd : decide ((100 : Int) < (d : Int) + 1) = false := decide_eq_false (by omega); have hbI : ¬ (100 : Int) < (d : Int) + 1 := (by omega); have hTR : trim (R.E.take d ++ [(R.N, so0)]) = R.E.take d ++ [(R.N, so0)] := (by unfold trim; rw [if_neg (by rw [HTL.out]; exact hbig)]); have HTR : Sl _ := ⟨hTR⟩; clear hTR hc2
      go_upto_region 4 with fail
      clear c6; obtain ⟨wy, hwy⟩ : ∃ wy, wc = wy := ⟨_, rfl⟩; rw [hwy] at HC ⊢; clear hwy; have HK : Sl (Blk wy q 41 (rqK o R.N (some ⟨g2, 0, none⟩) (d + 1) cD d) ∧ Blk wy g3 38 #[.slice s.A s.L.length s.c, .int .i64 (s.p : Int)] ∧ MvP (fun i => i = q) w wy) := ⟨⟨HC.out.1, HC.out.2.2.1, HC.out.2.2.2⟩⟩; have c6 : wy.cell? ⟨q, 6, none⟩ = some (.slice (some ⟨g2, 0, none⟩) (d + 1) (cD)) := HK.out.1.cell 6
      go_upto_region 5 with ((with_reducible show wpList _ _ _ _ _ _); (refine wpList_store_cell rfl 3 (.tmp 46) (.tmp 44) rfl q 7 (.int .i64 ((d + 1 : Nat) : Int)) rfl rfl 41 _ (rqK o R.N (some ⟨g2, 0, none⟩) (d + 1) (cD) (d + 1)) HK.out.1 (by simp [rqK]) rfl (by kernel_rfl) rfl rfl ?_; rintro w7 zm zs zb zw; have HZ7 : Sl _ := ⟨And.intro zm zb⟩; clear zm zs zb zw))
      have HG7 : Sl (Blk w7 g3 38 #[.slice s.A s.L.length s.c, .int .i64 (s.p : Int)]) := ⟨HK.out.2.1.mv HZ7.out.1 HGQ.out⟩; clear c6
      go_wp2_with ((with_reducible show wpList _ _ _ _ _ _); first
        | (refine wpList_load_whole rfl 38 (.tmp 3) rfl g3 rfl 38 _ _ HG7.out Tryz.underlying38 rfl (by kernel_rfl) ?_)
        | (refine wpList_store_part rfl 38 (.tmp 50) (.tmp 48) rfl q 4 #[.slice s.A s.L.length s.c, .int .i64 (s.p : Int)] rfl rfl 41 _ (rqK o s (some ⟨g2, 0, none⟩) (d + 1) (cD) (d + 1)) HZ7.out.2 (by simp [rqK]) rfl (by kernel_rfl) (by simp [Value.oneCell']) ?_; rintro w9 zm zs zb; have HZ9 : Sl _ := ⟨And.intro zm zb⟩; clear zm zs zb))
      go_end0; have hm9 : MvP (fun i => i = q) w w9 := HK.out.2.2.trans ((MvP.of_mv HZ7.out.1).trans (MvP.of_mv HZ9.out.1)); have hm79 : MvP (fun i => i = q) wy w9 := (MvP.of_mv HZ7.out.1).trans (MvP.of_mv HZ9.out.1); have he := (ERow.of_own (own_low HC.out.2.1 HB1.out.1) (edR_one _)).keep hm79 (fun i hi e => by obtain ⟨ad, e1, e2⟩ := hi; injection e1 with e1; subst e1; exact HG2Q.out.1 (e2.trans e))
      have hres := H.out.edits (w' := w9) (EA := some ⟨g2, 0, none⟩) (ec := cD) (s := s) (E := trim (R.E.take d ++ [(R.N, so0)])) (d := (trim (R.E.take d ++ [(R.N, so0)])).length)
        (by rw [rqC_k, HQ.out.1, HTR.out, HTL.out]; exact HZ9.out.2)
        (by rw [HTR.out, HTL.out]; exact he)
        (hm9.mono fun i e => .inl (e.trans HQ.out.1.symm)) (fun i hi => by obtain ⟨ad, e1, e2⟩ := hi; injection e1 with e1; subst e1; exact .inr (by have := HG2Q.out.2; have e2 : g2 = i := e2; omega)) HS.out (fun e he => HEV.out e (mem_trim he))
      exact ⟨rfl, _, _, by rw [HED.out]; exact hres.1, hres.2⟩
theorem ERow.ne {w : World} {base n c g : Nat} {A : Option Addr} {xs : List Value} {cs : Array Value} (h : ERow w base A n c xs) (hB : Blk w g 41 cs) {i : Nat} (hi : blkOf A i) : i ≠ g := by
  rintro rfl; obtain ⟨ad, rfl, rfl⟩ := hi; rcases h.at_ with ⟨e, _⟩ | ⟨b, off, cs', e, hb, hB', _⟩
  · cases e
  · injection e with e
    subst e; have h1 : w.heap[b]? = some (.cells cs 41) := hB; have h2 : w.heap[b]? = some (.cells cs' 114) := hB'; rw [h1] at h2; injection h2 with h2
    injection h2 with _ e2
    exact absurd e2 (by decide)
theorem RQ.set {w w' : World} {base : Nat} {o : SpO} {m : SqM} {R : RqV} (h : RQ w base o m R) {s : StO} {d : Nat} (hb : Blk w' m.q 41 (rqC o m ⟨s, R.E, d⟩)) (hm : MvP (fun i => i = m.q) w w') (hs : s.ok w m.imm) : RQ w' base o m ⟨s, R.E, d⟩ ∧ Foot m m w w' :=
  h.edits (EA := m.EA) (ec := m.ec) hb (h.ed.keep hm (fun i hi e => h.ed.ne h.blk hi e)) (hm.mono fun i e => .inl e) (fun i hi => .inl (.inr (.inr hi))) hs h.ev
theorem RQ.frame_at {w : World} {base : Nat} {o : SpO} {m : SqM} {R : RqV} {k : Nat} {x : RgV} (h : RQ w base o m R) (hx : R.N.L[k]? = some x) : ∃ g oo, R.N.A = some ⟨g, oo, none⟩ ∧ g < w.heap.size ∧ R.N.L.length ≤ R.N.c ∧ R.N.c ≤ 9223372036854775807 ∧ ∀ W, RQ W base o m R → W.rangeAt g (oo + k * 2) [.slice x.A x.n x.c, .slice x.B x.m x.d] := by
  have hk : k < R.N.L.length := (List.getElem?_eq_some_iff.1 hx).1; have ht := h.nw.now; obtain ⟨g, oo, y, h1, h2, h3, h4⟩ := ht.row.at_ (by decide) hk; refine ⟨g, oo, h1, h2, ht.cap.1, by have := ht.cap.2; unfold maxLen at this; omega, fun W hW => ?_⟩; obtain ⟨g', oo', y', e1, e2, e3, e4⟩ := hW.nw.now.row.at_ (by decide) hk; rw [h1] at e1; injection e1 with e1
  injection e1 with e1 e5
  subst e1 e5; rw [hx] at e3; injection e3 with e3
  subst e3; exact e4
theorem fmG_get {α : Type} (f : α → List Value) (sz : Nat) (hf : ∀ x, (f x).length = sz) : ∀ (L : List α) (i j : Nat) (x : α), L[i]? = some x → j < sz → (L.flatMap f)[i * sz + j]? = (f x)[j]?
  | [], i, j, x, h, _ => by simp at h
  | z :: L, 0, j, x, h, hj => by
    have h : z = x := (by simpa using h); subst h; rw [List.flatMap_cons, Nat.zero_mul, Nat.zero_add, List.getElem?_append_left (by rw [hf]; exact hj)]
  | z :: L, i + 1, j, x, h, hj => by
    have h : L[i]? = some x := (by simpa using h); rw [List.flatMap_cons, List.getElem?_append_right (by rw [hf, Nat.succ_mul]; omega), ← fmG_get f sz hf L i j x h hj, hf]; congr 1; rw [Nat.succ_mul]; omega
theorem ERow.at2 {w : World} {base n c i : Nat} {A : Option Addr} {E : List (StO × StO)} {x : StO × StO} (h : ERow w base A n c (E.flatMap edR)) (hx : E[i]? = some x) (hn : E.length = n) :
    ∃ b off, A = some ⟨b, off, none⟩ ∧ base ≤ b ∧ (∀ W, ERow W base A n c (E.flatMap edR) → W.rangeAt b (off + i * 4) x.1.cells ∧ W.rangeAt b (off + i * 4 + 2) x.2.cells) ∧ ∃ cs, Blk w b 114 cs ∧ off + n * 4 ≤ cs.size ∧ ∀ j u, (E.flatMap edR)[j]? = some u → cs[off + j]? = some u := by
  have hi : i < n := (by rw [← hn]; exact (List.getElem?_eq_some_iff.1 hx).1); have hg : ∀ j, j < 4 → (E.flatMap edR)[i * 4 + j]? = (edR x)[j]? := fun j hj => fmG_get edR 4 edR_len E i j x hx hj
  rcases h.at_ with ⟨_, h0, _⟩ | ⟨b, off, cs, e, hb, hB, hs, hc⟩
  · omega
  · refine ⟨b, off, e, hb, fun W hW => ?_, cs, hB, hs, hc⟩; rcases hW.at_ with ⟨_, h0, _⟩ | ⟨b', off', cs', e', hb', hB', hs', hc'⟩
    · omega
    · rw [e] at e'; injection e' with e'
      injection e' with e1 e2
      subst e1 e2
      have key : ∀ j u, j < 4 → (edR x)[j]? = some u → W.cell? ⟨b, off + (i * 4 + j), none⟩ = some u := fun j u hj hu => by
        rw [hB'.cell]; exact hc' _ u (by rw [hg j hj]; exact hu)
      refine ⟨fun j u hu => ?_, fun j u hu => ?_⟩
      · have hj : j < 2 := (List.getElem?_eq_some_iff.1 hu).1; rw [Nat.add_assoc]; refine key j u (by omega) ?_; unfold edR; rw [List.getElem?_append_left (by show j < 2; exact hj)]; exact hu
      · have hj : j < 2 := (List.getElem?_eq_some_iff.1 hu).1
        have h := key (2 + j) u (by omega) (by
          unfold edR; rw [List.getElem?_append_right (by show 2 ≤ 2 + j; omega)]; show x.2.cells[2 + j - 2]? = some u; rw [show 2 + j - 2 = j by omega]
          exact hu)
        rw [show off + i * 4 + 2 + j = off + (i * 4 + (2 + j)) by omega]; exact h
theorem edR_set {E : List (StO × StO)} {i off n : Nat} {x : StO × StO} {s : StO} {cs : Array Value} (hx : E[i]? = some x) (hn : E.length = n) (hs : off + n * 4 ≤ cs.size) (hc : ∀ j u, (E.flatMap edR)[j]? = some u → cs[off + j]? = some u) :
    ∀ j u, ((E.set i (x.1, s)).flatMap edR)[j]? = some u → (putA cs (off + i * 4 + 2) s.cells)[off + j]? = some u := fun j u hu => by
  have hi : i < E.length := (List.getElem?_eq_some_iff.1 hx).1
  have hlen : ∀ L : List (StO × StO), (L.flatMap edR).length = L.length * 4 := fun L => by
    induction L with
    | nil => rfl
    | cons y L ih => rw [List.flatMap_cons, List.length_append, ih, List.length_cons, edR_len]; omega
  have hj : j < n * 4 := by
    have := (List.getElem?_eq_some_iff.1 hu).1; rw [hlen, List.length_set] at this; omega
  have hk : j / 4 < E.length := (by omega); obtain ⟨y, hy⟩ : ∃ y, (E.set i (x.1, s))[j / 4]? = some y := ⟨_, List.getElem?_eq_getElem (by rw [List.length_set]; exact hk)⟩; have h1 := fmG_get edR 4 edR_len (E.set i (x.1, s)) (j / 4) (j % 4) y hy (Nat.mod_lt _ (by decide)); rw [show j / 4 * 4 + j % 4 = j by omega] at h1; rw [h1] at hu; have hp := putA_get s.cells cs (off + i * 4 + 2) (off + j) (by show off + i * 4 + 2 + 2 ≤ _; omega); rw [hp]; have h2 : s.cells.length = 2 := rfl; rw [h2]
  by_cases hji : j / 4 = i
  · rw [hji, List.getElem?_set_self hi] at hy; injection hy with hy
    subst hy
    by_cases ht : 2 ≤ j % 4
    · rw [if_pos (by omega)]; unfold edR at hu; rw [List.getElem?_append_right (by show 2 ≤ j % 4; exact ht)] at hu; rw [show off + j - (off + i * 4 + 2) = j % 4 - 2 by omega]; exact hu
    · rw [if_neg (by omega)]; refine hc j u ?_; have h3 := fmG_get edR 4 edR_len E i (j % 4) x hx (Nat.mod_lt _ (by decide)); rw [show i * 4 + j % 4 = j by omega] at h3; rw [h3]; unfold edR at hu ⊢; rw [List.getElem?_append_left (by show j % 4 < 2; omega)] at hu ⊢; exact hu
  · rw [if_neg (by omega)]; rw [List.getElem?_set_ne (fun e => hji e.symm)] at hy; refine hc j u ?_; have h3 := fmG_get edR 4 edR_len E (j / 4) (j % 4) y hy (Nat.mod_lt _ (by decide)); rw [show j / 4 * 4 + j % 4 = j by omega] at h3; rw [h3]; exact hu
theorem rGo_no (base : Nat) (o : SpO) (m : SqM) (R : RqV) (z : Int) (w : World) (h : RQ w base o m R) (hn : R.N.L.length ≤ 500) (hz : z < 0 ∨ (R.N.L.length : Int) < z) :
    Calls Tryz.prog 78 #[ptr m.q, .int .i64 z] w fun en w' => en = .returned (.int .i64 7) ∧ Below w.heap.size w w' := by
  have H : Sl _ := ⟨h⟩; obtain ⟨q, hq⟩ : ∃ q, m.q = q := ⟨_, rfl⟩; obtain ⟨n, hnn⟩ : ∃ n, R.N.L.length = n := ⟨_, rfl⟩; obtain ⟨p, hpp⟩ : ∃ p, R.N.p = p := ⟨_, rfl⟩; have HQ : Sl (m.q = q ∧ R.N.L.length = n ∧ R.N.p = p) := ⟨⟨hq, hnn, hpp⟩⟩; have hn500 : (n : Int) ≤ 500 := (by omega); rw [hnn] at hz; rw [hq]; clear h hn hq hnn hpp; have c4 : w.cell? ⟨q, 4, none⟩ = some (.slice R.N.A n R.N.c) := (by rw [← HQ.out.1, ← HQ.out.2.1]; exact H.out.cell 4 rfl); have c5 : w.cell? ⟨q, 5, none⟩ = some (.int .i64 (p : Int)) := (by rw [← HQ.out.1, ← HQ.out.2.2]; exact H.out.cell 5 rfl); go_enter Tryz.func78, Tryz.ntmps78
  by_cases p1 : z < 0
  · have p1d : decide (z < 0) = true := decide_eq_true p1; go_wp2_with fail; go_ret; exact ⟨rfl, Below.refl _ _⟩
  · have p1d : decide (z < 0) = false := decide_eq_false p1; have p2 : (n : Int) < z := (by omega); have p2d : decide ((n : Int) < z) = true := decide_eq_true p2; clear hz; go_wp2_with fail; go_ret; exact ⟨rfl, Below.refl _ _⟩
theorem rGo_any (base : Nat) (o : SpO) (m : SqM) (R : RqV) (z : Nat) (w : World) (h : RQ w base o m R) (hn : R.N.L.length ≤ 500) (hz : z ≤ R.N.L.length) :
    Calls Tryz.prog 78 #[ptr m.q, .int .i64 (z : Int)] w fun en w' => en = .returned (.int .i64 0) ∧ RQ w' base o m ⟨{ R.N with p := z }, R.E, R.d⟩ ∧ Foot m m w w' := by
  have H : Sl _ := ⟨h⟩; obtain ⟨q, hq⟩ : ∃ q, m.q = q := ⟨_, rfl⟩; obtain ⟨n, hnn⟩ : ∃ n, R.N.L.length = n := ⟨_, rfl⟩; obtain ⟨p, hpp⟩ : ∃ p, R.N.p = p := ⟨_, rfl⟩; have HQ : Sl (m.q = q ∧ R.N.L.length = n ∧ R.N.p = p) := ⟨⟨hq, hnn, hpp⟩⟩; have hn500 : (n : Int) ≤ 500 := (by omega); have p1d : decide ((z : Int) < 0) = false := decide_eq_false (by omega); have p1 : ¬ (z : Int) < 0 := (by omega); have p2d : decide ((n : Int) < (z : Int)) = false := decide_eq_false (by omega); have p2 : ¬ (n : Int) < (z : Int) := (by omega); rw [hq]; clear h hn hz hq hnn hpp; have c4 : w.cell? ⟨q, 4, none⟩ = some (.slice R.N.A n R.N.c) := (by rw [← HQ.out.1, ← HQ.out.2.1]; exact H.out.cell 4 rfl); have c5 : w.cell? ⟨q, 5, none⟩ = some (.int .i64 (p : Int)) := (by rw [← HQ.out.1, ← HQ.out.2.2]; exact H.out.cell 5 rfl); have HB : Sl (Blk w q 41 (rqC o m R)) := ⟨by rw [← HQ.out.1]; exact H.out.blk⟩; go_enter Tryz.func78, Tryz.ntmps78; go_wp2_with ((with_reducible show wpList _ _ _ _ _ _); (refine wpList_store_cell rfl 3 (.tmp 21) (.tmp 18) rfl q 5 (.int .i64 (z : Int)) rfl rfl 41 _ _ HB.out (by simp [rqC]) rfl (by kernel_rfl) rfl rfl ?_; rintro w6 zm zs zb zw; have HZ : Sl _ := ⟨And.intro zm zb⟩; clear zm zs zb zw)); go_ret; have h := H.out.set (w' := w6) (s := { R.N with p := z }) (d := R.d) (by rw [HQ.out.1]; exact HZ.out.2) ((MvP.of_mv HZ.out.1).mono fun i e => e.trans HQ.out.1.symm) H.out.nw; exact ⟨rfl, h.1, h.2⟩
theorem rNext_no (base : Nat) (o : SpO) (m : SqM) (R : RqV) (w : World) (h : RQ w base o m R) (hn : R.N.L.length ≤ 500) (hp : R.N.p = R.N.L.length) :
    Calls Tryz.prog 74 #[ptr m.q] w fun en w' => en = .returned (.tuple #[.agg #[.slice none 0 0, .slice none 0 0], .int .i64 4]) ∧ Below w.heap.size w w' := by
  have H : Sl _ := ⟨h⟩; obtain ⟨q, hq⟩ : ∃ q, m.q = q := ⟨_, rfl⟩; obtain ⟨n, hnn⟩ : ∃ n, R.N.L.length = n := ⟨_, rfl⟩; obtain ⟨p, hpp⟩ : ∃ p, R.N.p = p := ⟨_, rfl⟩; have HQ : Sl (m.q = q ∧ R.N.L.length = n ∧ R.N.p = p) := ⟨⟨hq, hnn, hpp⟩⟩; have hpd : decide ((n : Int) ≤ (p : Int)) = true := decide_eq_true (by omega); have hpI : (n : Int) ≤ (p : Int) := (by omega); have hn500 : (n : Int) ≤ 500 := (by omega); rw [hq]; clear h hn hp hq hnn hpp; have HD : Sl (Lg w w []) := ⟨Lg.nil w⟩; go_enter Tryz.func74, Tryz.ntmps74
  go_upto_region 1 with ((with_reducible show wpList _ _ _ _ _ _); first
    | (refine wpList_alloc_new 2 rfl rfl 45 rfl #[.slice none 0 0, .slice none 0 0] alloc_reg ?_; rintro wr gr zg zm zs zb; replace HD : Sl _ := ⟨HD.out.new zg zm zb⟩; clear zg zm zs zb))
  have HS : Sl (RQ wr base o m R) := ⟨H.out.below HD.out.bl⟩; have HBD : Sl (Below wr.heap.size wr wr.drew) := ⟨below_drewN (Below.refl _ _) 1⟩; have c4 : wr.drew.cell? ⟨q, 4, none⟩ = some (.slice R.N.A n R.N.c) := (by rw [← HQ.out.1, ← HQ.out.2.1]; exact (HS.out.below HBD.out).cell 4 rfl); have c5 : wr.drew.cell? ⟨q, 5, none⟩ = some (.int .i64 (p : Int)) := (by rw [← HQ.out.1, ← HQ.out.2.2]; exact (HS.out.below HBD.out).cell 5 rfl); have hS0 : wr.drew.cell? ⟨q, 4, none⟩ = some (.slice R.N.A n R.N.c) ∧ wr.drew.cell? ⟨q, 5, none⟩ = some (.int .i64 (p : Int)) := ⟨c4, c5⟩; clear c4 c5; have hm := hS0; refine wp_region_held_drew (S := fun w' => w'.cell? ⟨q, 4, none⟩ = some (.slice R.N.A n R.N.c) ∧ w'.cell? ⟨q, 5, none⟩ = some (.int .i64 (p : Int))) (by kernel_rfl) hm (fun hHeld => ?_); clear hm; refine hM 0 (v := ptr q) rfl rfl ?_; simp only [pS]; refine hS 1 (v := ptr q) rfl rfl ?_; simp only [pS]; refine hS 2 (v := .pointer (some ⟨q, 4, none⟩)) rfl rfl ?_; simp only [pS]; refine hS 3 (v := .pointer (some ⟨q, 5, none⟩)) rfl rfl ?_; simp only [pS]
  refine hC 4 (v := .int .i64 (p : Int)) rfl rfl (fun w' h => by
    have hc := h.2
    go_simp) ?_
  simp only [pS]; refine hM 5 (v := ptr q) rfl rfl ?_; simp only [pS]; refine hS 6 (v := ptr q) rfl rfl ?_; simp only [pS]; refine hS 7 (v := .pointer (some ⟨q, 4, none⟩)) rfl rfl ?_; simp only [pS]; refine hS 8 (v := .pointer (some ⟨q, 4, none⟩)) rfl rfl ?_; simp only [pS]
  refine hC 9 (v := .slice R.N.A n R.N.c) rfl rfl (fun w' h => by
    have hc := h.1
    go_simp) ?_
  simp only [pS]; refine hS 10 (v := .int .i64 (n : Int)) rfl rfl ?_; simp only [pS]; refine hS 11 (v := .bool true) rfl rfl ?_; simp only [pS]; refine wpAnyH_done (by kernel_rfl) ?_ _; clear hHeld hS0; replace HD : Sl (Lg w wr.drew [(gr, 45, #[.slice none 0 0, .slice none 0 0])]) := ⟨HD.out.below HBD.out⟩; replace HS : Sl (RQ wr.drew base o m R) := ⟨HS.out.below HBD.out⟩; generalize wr.drew = w5 at *
  go_wp2_with ((with_reducible show wpList _ _ _ _ _ _); first
    | (refine wpList_store_whole rfl 45 (.tmp 2) (.tmp 16) rfl gr #[.slice none 0 0, .slice none 0 0] rfl rfl 45 _ (HD.out.at_ 0 rfl) rfl (by kernel_rfl) (by simp [Value.oneCell']) ?_; rintro w2 zm zs zb; replace HD : Sl _ := ⟨HD.out.upd zm zb⟩; clear zm zs zb))
  refine bodyPost_ret (results_row2c rfl _ _ gr _ _ _ rfl (HD.out.at_ 0 rfl) Tryz.underlying45 rfl (by kernel_rfl)) rfl ?_; exact ⟨rfl, HD.out.bl⟩
theorem rNext_any (base : Nat) (o : SpO) (m : SqM) (R : RqV) (x : RgV) (w : World) (h : RQ w base o m R) (hn : R.N.L.length ≤ 500) (hx : R.N.L[R.N.p]? = some x) :
    Calls Tryz.prog 74 #[ptr m.q] w fun en w' => en = .returned (.tuple #[.agg #[.slice x.A x.n x.c, .slice x.B x.m x.d], .int .i64 0]) ∧ RQ w' base o m ⟨{ R.N with p := R.N.p + 1 }, R.E, R.d⟩ ∧ Foot m m w w' := by
  have H : Sl _ := ⟨h⟩; obtain ⟨q, hq⟩ : ∃ q, m.q = q := ⟨_, rfl⟩; obtain ⟨n, hnn⟩ : ∃ n, R.N.L.length = n := ⟨_, rfl⟩; obtain ⟨p, hpp⟩ : ∃ p, R.N.p = p := ⟨_, rfl⟩; have HQ : Sl (m.q = q ∧ R.N.L.length = n ∧ R.N.p = p) := ⟨⟨hq, hnn, hpp⟩⟩; have hpn : p < n := (by rw [← hnn, ← hpp]; exact (List.getElem?_eq_some_iff.1 hx).1); have hpd : decide ((n : Int) ≤ (p : Int)) = false := decide_eq_false (by omega); have hpI : ¬ (n : Int) ≤ (p : Int) := (by omega); have hpI2 : (p : Int) < (n : Int) := (by omega); have hn500 : (n : Int) ≤ 500 := (by omega); have hp0 : (0 : Int) ≤ (p : Int) := (by omega); have hp500 : (p : Int) < 500 := (by omega); have hwp : IntKind.i64.wrap (p : Int) = (p : Int) := (by rw [IntKind.wrap_i64]; omega); have HX : Sl (R.N.L[p]? = some x) := ⟨by rw [← hpp]; exact hx⟩; rw [hq]; clear h hn hx hpn hq hnn hpp; have HD : Sl (Lg w w []) := ⟨Lg.nil w⟩; go_enter Tryz.func74, Tryz.ntmps74
  go_upto_region 1 with ((with_reducible show wpList _ _ _ _ _ _); first
    | (refine wpList_alloc_new 2 rfl rfl 45 rfl #[.slice none 0 0, .slice none 0 0] alloc_reg ?_; rintro wr gr zg zm zs zb; replace HD : Sl _ := ⟨HD.out.new zg zm zb⟩; clear zg zm zs zb))
  have HS : Sl (RQ wr base o m R) := ⟨H.out.below HD.out.bl⟩; have HBD : Sl (Below wr.heap.size wr wr.drew) := ⟨below_drewN (Below.refl _ _) 1⟩; have c4 : wr.drew.cell? ⟨q, 4, none⟩ = some (.slice R.N.A n R.N.c) := (by rw [← HQ.out.1, ← HQ.out.2.1]; exact (HS.out.below HBD.out).cell 4 rfl); have c5 : wr.drew.cell? ⟨q, 5, none⟩ = some (.int .i64 (p : Int)) := (by rw [← HQ.out.1, ← HQ.out.2.2]; exact (HS.out.below HBD.out).cell 5 rfl); have hS0 : wr.drew.cell? ⟨q, 4, none⟩ = some (.slice R.N.A n R.N.c) ∧ wr.drew.cell? ⟨q, 5, none⟩ = some (.int .i64 (p : Int)) := ⟨c4, c5⟩; clear c4 c5; have hm := hS0; refine wp_region_held_drew (S := fun w' => w'.cell? ⟨q, 4, none⟩ = some (.slice R.N.A n R.N.c) ∧ w'.cell? ⟨q, 5, none⟩ = some (.int .i64 (p : Int))) (by kernel_rfl) hm (fun hHeld => ?_); clear hm; refine hM 0 (v := ptr q) rfl rfl ?_; simp only [pS]; refine hS 1 (v := ptr q) rfl rfl ?_; simp only [pS]; refine hS 2 (v := .pointer (some ⟨q, 4, none⟩)) rfl rfl ?_; simp only [pS]; refine hS 3 (v := .pointer (some ⟨q, 5, none⟩)) rfl rfl ?_; simp only [pS]
  refine hC 4 (v := .int .i64 (p : Int)) rfl rfl (fun w' h => by
    have hc := h.2
    go_simp) ?_
  simp only [pS]; refine hM 5 (v := ptr q) rfl rfl ?_; simp only [pS]; refine hS 6 (v := ptr q) rfl rfl ?_; simp only [pS]; refine hS 7 (v := .pointer (some ⟨q, 4, none⟩)) rfl rfl ?_; simp only [pS]; refine hS 8 (v := .pointer (some ⟨q, 4, none⟩)) rfl rfl ?_; simp only [pS]
  refine hC 9 (v := .slice R.N.A n R.N.c) rfl rfl (fun w' h => by
    have hc := h.1
    go_simp) ?_
  simp only [pS]; refine hS 10 (v := .int .i64 (n : Int)) rfl rfl ?_; simp only [pS]; refine hS 11 (v := .bool false) rfl rfl ?_; simp only [pS]; refine wpAnyH_done (by kernel_rfl) ?_ _; clear hHeld hS0; replace HD : Sl (Lg w wr.drew [(gr, 45, #[.slice none 0 0, .slice none 0 0])]) := ⟨HD.out.below HBD.out⟩; replace HS : Sl (RQ wr.drew base o m R) := ⟨HS.out.below HBD.out⟩; generalize wr.drew = w5 at *
  have HB : Sl (Blk w5 q 41 (rqC o m R)) := ⟨by rw [← HQ.out.1]; exact HS.out.blk⟩; have HGE : Sl (w.heap.size ≤ gr) := ⟨HD.out.ld.ge _ List.mem_cons_self⟩; have c4 : w5.cell? ⟨q, 4, none⟩ = some (.slice R.N.A n R.N.c) := (by rw [← HQ.out.1, ← HQ.out.2.1]; exact HS.out.cell 4 rfl); have c5 : w5.cell? ⟨q, 5, none⟩ = some (.int .i64 (p : Int)) := (by rw [← HQ.out.1, ← HQ.out.2.2]; exact HS.out.cell 5 rfl); clear c4
  go_upto_region 4 with ((with_reducible show wpList _ _ _ _ _ _); (refine wpList_store_cell rfl 3 (.tmp 25) (.tmp 22) rfl q 5 (.int .i64 ((p : Int) + 1)) rfl rfl 41 _ _ HB.out (by simp [rqC]) rfl (by kernel_rfl) rfl rfl ?_; rintro w6 zm zs zb zw; have HZ : Sl _ := ⟨And.intro zm zb⟩; clear zm zs zb zw))
  have HSV : Sl (RQ w6 base o m ⟨{ R.N with p := R.N.p + 1 }, R.E, R.d⟩ ∧ Foot m m w w6) := ⟨by
    have h := HS.out.set (w' := w6) (s := { R.N with p := R.N.p + 1 }) (d := R.d) (by rw [HQ.out.1]; have hb := HZ.out.2; rw [show ((p : Int) + 1 : Int) = ((R.N.p + 1 : Nat) : Int) by (rw [HQ.out.2.2]; push_cast; rfl)] at hb; exact hb) ((MvP.of_mv HZ.out.1).mono fun i e => e.trans HQ.out.1.symm) HS.out.nw
    exact ⟨h.1, (Foot.of_below HD.out.bl).trans h.2⟩⟩
  have HG6 : Sl (Blk w6 gr 45 #[.slice none 0 0, .slice none 0 0]) := ⟨(HD.out.at_ 0 rfl).mv HZ.out.1 (by have := HGE.out; have hl := H.out.blk.lt; rw [HQ.out.1] at hl; omega)⟩; obtain ⟨g, oo, hg, hgl, hgc, hgm, hgr⟩ := HSV.out.1.frame_at (k := p) HX.out; have HFA : Sl _ := ⟨hgr⟩; have HGA : Sl (R.N.A = some ⟨g, oo, none⟩) := ⟨hg⟩; have hgc : (n : Int) ≤ (R.N.c : Int) := (by have h : R.N.L.length ≤ R.N.c := hgc; have := HQ.out.2.1; omega); clear c5 HB hg hgr hgm hgl; have HBD6 : Sl (Below w6.heap.size w6 w6.drew) := ⟨below_drewN (Below.refl _ _) 1⟩
  have HQD : Sl (∀ W, Mv gr w6 W → W.cell? ⟨q, 4, none⟩ = some (.slice (some ⟨g, oo, none⟩) n R.N.c) ∧ W.cell? ⟨q, 5, none⟩ = some (.int .i64 ((p : Int) + 1)) ∧ W.rangeAt g (oo + p * 2) [.slice x.A x.n x.c, .slice x.B x.m x.d]) := ⟨fun W hW => by
    have hs := HSV.out.1.keep (MvP.of_mv hW) (fun i hi e => by have := H.out.held_lt hi; have := HGE.out; omega); refine ⟨?_, ?_, HFA.out W hs⟩
    · rw [← HQ.out.1, ← HQ.out.2.1, ← HGA.out]; exact hs.cell 4 rfl
    · have h5 : W.cell? ⟨m.q, 5, none⟩ = some (.int .i64 ((R.N.p + 1 : Nat) : Int)) := hs.cell 5 rfl; rw [HQ.out.1, show (((R.N.p + 1 : Nat) : Int)) = (p : Int) + 1 by symm; (rw [HQ.out.2.2]; push_cast; rfl)] at h5
      exact h5⟩
  have hm := Mv.below (g := gr) HBD6.out; refine wp_region_held_drew (S := fun w' => Mv gr w6 w') (by kernel_rfl) hm (fun hHeld => ?_); clear hm; refine hM 0 (v := ptr q) rfl rfl ?_; simp only [pS]; refine hS 1 (v := ptr q) rfl rfl ?_; simp only [pS]; refine hS 2 (v := .pointer (some ⟨q, 4, none⟩)) rfl rfl ?_; simp only [pS]; refine hS 3 (v := .pointer (some ⟨q, 4, none⟩)) rfl rfl ?_; simp only [pS]
  refine hC 4 (v := .slice (some ⟨g, oo, none⟩) n R.N.c) rfl rfl (fun w' h => by
    have hc := (HQD.out w' h).1
    go_simp) ?_
  simp only [pS]; refine hM 5 (v := ptr q) rfl rfl ?_; simp only [pS]; refine hS 6 (v := ptr q) rfl rfl ?_; simp only [pS]; refine hS 7 (v := .pointer (some ⟨q, 4, none⟩)) rfl rfl ?_; simp only [pS]; refine hS 8 (v := .pointer (some ⟨q, 5, none⟩)) rfl rfl ?_; simp only [pS]
  refine hC 9 (v := .int .i64 ((p : Int) + 1)) rfl rfl (fun w' h => by
    have hc := (HQD.out w' h).2.1
    go_simp) ?_
  simp only [pS]; refine hS 10 (v := .int .i64 (p : Int)) rfl rfl ?_; simp only [pS]; refine hS 11 (v := .pointer (some ⟨g, oo + p * 2, none⟩)) rfl rfl ?_; simp only [pS]; refine hL 12 45 (.tmp 37) rfl rfl rfl g (oo + p * 2) rfl #[.slice x.A x.n x.c, .slice x.B x.m x.d] _ (fun w' h => (HQD.out w' h).2.2) Tryz.underlying45 rfl ?_; simp only [pS]; refine hO 13 rfl rfl fun K hK => ?_; refine wp_store_partm 45 (.tmp 2) (.tmp 38) rfl gr 0 #[.slice x.A x.n x.c, .slice x.B x.m x.d] rfl rfl 45 _ #[.slice x.A x.n x.c, .slice x.B x.m x.d] (HG6.out.below HBD6.out HG6.out.lt) (by simp) (putA_all _ _ rfl) (by kernel_rfl) (by simp [Value.oneCell']) ?_; rintro w8 zm zs zb; have HZ8 : Sl _ := ⟨And.intro zm zb⟩; refine hK.out _ _ (Mv.trans (Mv.below HBD6.out) zm) (fun hHeld => ?_); clear hK K zm zs zb; simp only [pS]; refine hM 14 (v := .int .i64 0) rfl rfl ?_; simp only [pS]; refine wpAnyH_done (by kernel_rfl) ?_ _; clear hHeld; go_wp2_with fail; refine bodyPost_ret (results_row2c rfl _ _ gr _ _ _ rfl HZ8.out.2 Tryz.underlying45 rfl (by kernel_rfl)) rfl ?_; exact ⟨rfl, (HSV.out.1.below HBD6.out).keep (MvP.of_mv HZ8.out.1) (fun i hi e => by have := H.out.held_lt hi; have := HGE.out; omega), (HSV.out.2.trans (Foot.of_below HBD6.out)).above (MvP.of_mv HZ8.out.1) (fun i e => by rw [e]; exact HGE.out)⟩
theorem rBack_no (base : Nat) (o : SpO) (m : SqM) (R : RqV) (w : World) (h : RQ w base o m R) (hp : R.N.p < 2) :
    Calls Tryz.prog 76 #[ptr m.q] w fun en w' => en = .returned (.tuple #[.agg #[.slice none 0 0, .slice none 0 0], .int .i64 4]) ∧ Below w.heap.size w w' := by
  have H : Sl _ := ⟨h⟩; obtain ⟨q, hq⟩ : ∃ q, m.q = q := ⟨_, rfl⟩; obtain ⟨n, hnn⟩ : ∃ n, R.N.L.length = n := ⟨_, rfl⟩; obtain ⟨p, hpp⟩ : ∃ p, R.N.p = p := ⟨_, rfl⟩; have HQ : Sl (m.q = q ∧ R.N.L.length = n ∧ R.N.p = p) := ⟨⟨hq, hnn, hpp⟩⟩; have hpd : decide ((p : Int) < 2) = true := decide_eq_true (by omega); have hpI : (p : Int) < 2 := (by omega); rw [hq]; clear h hp hq hnn hpp; have HD : Sl (Lg w w []) := ⟨Lg.nil w⟩; go_enter Tryz.func76, Tryz.ntmps76
  go_upto_region 1 with ((with_reducible show wpList _ _ _ _ _ _); first
    | (refine wpList_alloc_new 2 rfl rfl 45 rfl #[.slice none 0 0, .slice none 0 0] alloc_reg ?_; rintro wr gr zg zm zs zb; replace HD : Sl _ := ⟨HD.out.new zg zm zb⟩; clear zg zm zs zb))
  have HS : Sl (RQ wr base o m R) := ⟨H.out.below HD.out.bl⟩; have c4 : wr.cell? ⟨q, 4, none⟩ = some (.slice R.N.A n R.N.c) := (by rw [← HQ.out.1, ← HQ.out.2.1]; exact HS.out.cell 4 rfl); have c5 : wr.cell? ⟨q, 5, none⟩ = some (.int .i64 (p : Int)) := (by rw [← HQ.out.1, ← HQ.out.2.2]; exact HS.out.cell 5 rfl)
  go_wp2_with ((with_reducible show wpList _ _ _ _ _ _); first
    | (refine wpList_store_whole rfl 45 (.tmp 2) (.tmp 10) rfl gr #[.slice none 0 0, .slice none 0 0] rfl rfl 45 _ (HD.out.at_ 0 rfl) rfl (by kernel_rfl) (by simp [Value.oneCell']) ?_; rintro w2 zm zs zb; replace HD : Sl _ := ⟨HD.out.upd zm zb⟩; clear zm zs zb))
  refine bodyPost_ret (results_row2c rfl _ _ gr _ _ _ rfl (HD.out.at_ 0 rfl) Tryz.underlying45 rfl (by kernel_rfl)) rfl ?_; exact ⟨rfl, HD.out.bl⟩
theorem rBack_any (base : Nat) (o : SpO) (m : SqM) (R : RqV) (k : Nat) (x : RgV) (w : World) (h : RQ w base o m R) (hn : R.N.L.length ≤ 500) (hp : R.N.p = k + 2) (hx : R.N.L[k]? = some x) :
    Calls Tryz.prog 76 #[ptr m.q] w fun en w' => en = .returned (.tuple #[.agg #[.slice x.A x.n x.c, .slice x.B x.m x.d], .int .i64 0]) ∧ RQ w' base o m ⟨{ R.N with p := R.N.p - 1 }, R.E, R.d⟩ ∧ Foot m m w w' := by
  have H : Sl _ := ⟨h⟩; obtain ⟨q, hq⟩ : ∃ q, m.q = q := ⟨_, rfl⟩; obtain ⟨n, hnn⟩ : ∃ n, R.N.L.length = n := ⟨_, rfl⟩; obtain ⟨p, hpp⟩ : ∃ p, R.N.p = p := ⟨_, rfl⟩; have HQ : Sl (m.q = q ∧ R.N.L.length = n ∧ R.N.p = p) := ⟨⟨hq, hnn, hpp⟩⟩; have hkn : k < n := (by rw [← hnn]; exact (List.getElem?_eq_some_iff.1 hx).1); have HP : Sl (p = k + 2) := ⟨by omega⟩; have hpd : decide ((p : Int) < 2) = false := decide_eq_false (by omega); have hpI : ¬ (p : Int) < 2 := (by omega); have hkI2 : (k : Int) < (n : Int) := (by omega); have hn500 : (n : Int) ≤ 500 := (by omega); have hk0 : (0 : Int) ≤ (k : Int) := (by omega); have hwk : IntKind.i64.wrap (k : Int) = (k : Int) := (by rw [IntKind.wrap_i64]; omega); have hp500 : (p : Int) ≤ 501 := (by omega); have hwk3 : IntKind.i64.wrap ((p : Int) - 1 - 1) = (k : Int) := (by rw [IntKind.wrap_i64]; omega); have hp0 : (0 : Int) ≤ (p : Int) := (by omega); have HX : Sl (R.N.L[k]? = some x) := ⟨hx⟩; rw [hq]; clear h hn hx hp hkn hq hnn hpp; have HD : Sl (Lg w w []) := ⟨Lg.nil w⟩; go_enter Tryz.func76, Tryz.ntmps76
  go_upto_region 1 with ((with_reducible show wpList _ _ _ _ _ _); first
    | (refine wpList_alloc_new 2 rfl rfl 45 rfl #[.slice none 0 0, .slice none 0 0] alloc_reg ?_; rintro wr gr zg zm zs zb; replace HD : Sl _ := ⟨HD.out.new zg zm zb⟩; clear zg zm zs zb))
  have HS : Sl (RQ wr base o m R) := ⟨H.out.below HD.out.bl⟩; have c4 : wr.cell? ⟨q, 4, none⟩ = some (.slice R.N.A n R.N.c) := (by rw [← HQ.out.1, ← HQ.out.2.1]; exact HS.out.cell 4 rfl); have c5 : wr.cell? ⟨q, 5, none⟩ = some (.int .i64 (p : Int)) := (by rw [← HQ.out.1, ← HQ.out.2.2]; exact HS.out.cell 5 rfl); clear c4
  go_upto_region 3 with fail
  clear c5; obtain ⟨w5, hw5⟩ : ∃ w5, wr = w5 := ⟨_, rfl⟩; rw [hw5] at HD HS ⊢; clear hw5; have HB : Sl (Blk w5 q 41 (rqC o m R)) := ⟨by rw [← HQ.out.1]; exact HS.out.blk⟩; have HGE : Sl (w.heap.size ≤ gr) := ⟨HD.out.ld.ge _ List.mem_cons_self⟩; have c4 : w5.cell? ⟨q, 4, none⟩ = some (.slice R.N.A n R.N.c) := (by rw [← HQ.out.1, ← HQ.out.2.1]; exact HS.out.cell 4 rfl); have c5 : w5.cell? ⟨q, 5, none⟩ = some (.int .i64 (p : Int)) := (by rw [← HQ.out.1, ← HQ.out.2.2]; exact HS.out.cell 5 rfl); clear c4
  go_upto_region 4 with ((with_reducible show wpList _ _ _ _ _ _); (refine wpList_store_cell rfl 3 (.tmp 19) (.tmp 16) rfl q 5 (.int .i64 ((p : Int) - 1)) rfl rfl 41 _ _ HB.out (by simp [rqC]) rfl (by kernel_rfl) rfl rfl ?_; rintro w6 zm zs zb zw; have HZ : Sl _ := ⟨And.intro zm zb⟩; clear zm zs zb zw))
  have HSV : Sl (RQ w6 base o m ⟨{ R.N with p := R.N.p - 1 }, R.E, R.d⟩ ∧ Foot m m w w6) := ⟨by
    have h := HS.out.set (w' := w6) (s := { R.N with p := R.N.p - 1 }) (d := R.d) (by rw [HQ.out.1]; have hb := HZ.out.2; rw [show ((p : Int) - 1 : Int) = ((R.N.p - 1 : Nat) : Int) by (have := HP.out; rw [HQ.out.2.2]; omega)] at hb; exact hb) ((MvP.of_mv HZ.out.1).mono fun i e => e.trans HQ.out.1.symm) HS.out.nw
    exact ⟨h.1, (Foot.of_below HD.out.bl).trans h.2⟩⟩
  have HG6 : Sl (Blk w6 gr 45 #[.slice none 0 0, .slice none 0 0]) := ⟨(HD.out.at_ 0 rfl).mv HZ.out.1 (by have := HGE.out; have hl := H.out.blk.lt; rw [HQ.out.1] at hl; omega)⟩; obtain ⟨g, oo, hg, hgl, hgc, hgm, hgr⟩ := HSV.out.1.frame_at (k := k) HX.out; have HFA : Sl _ := ⟨hgr⟩; have HGA : Sl (R.N.A = some ⟨g, oo, none⟩) := ⟨hg⟩; have hgc : (n : Int) ≤ (R.N.c : Int) := (by have h : R.N.L.length ≤ R.N.c := hgc; have := HQ.out.2.1; omega); clear c5 HB hg hgr hgm hgl; have HBD6 : Sl (Below w6.heap.size w6 w6.drew) := ⟨below_drewN (Below.refl _ _) 1⟩
  have HQD : Sl (∀ W, Mv gr w6 W → W.cell? ⟨q, 4, none⟩ = some (.slice (some ⟨g, oo, none⟩) n R.N.c) ∧ W.cell? ⟨q, 5, none⟩ = some (.int .i64 ((p : Int) - 1)) ∧ W.rangeAt g (oo + k * 2) [.slice x.A x.n x.c, .slice x.B x.m x.d]) := ⟨fun W hW => by
    have hs := HSV.out.1.keep (MvP.of_mv hW) (fun i hi e => by have := H.out.held_lt hi; have := HGE.out; omega); refine ⟨?_, ?_, HFA.out W hs⟩
    · rw [← HQ.out.1, ← HQ.out.2.1, ← HGA.out]; exact hs.cell 4 rfl
    · have h5 : W.cell? ⟨m.q, 5, none⟩ = some (.int .i64 ((R.N.p - 1 : Nat) : Int)) := hs.cell 5 rfl; rw [HQ.out.1, show (((R.N.p - 1 : Nat) : Int)) = (p : Int) - 1 by symm; (have := HP.out; rw [HQ.out.2.2]; omega)] at h5
      exact h5⟩
  have hm := Mv.below (g := gr) HBD6.out; refine wp_region_held_drew (S := fun w' => Mv gr w6 w') (by kernel_rfl) hm (fun hHeld => ?_); clear hm; refine hM 0 (v := ptr q) rfl rfl ?_; simp only [pS]; refine hS 1 (v := ptr q) rfl rfl ?_; simp only [pS]; refine hS 2 (v := .pointer (some ⟨q, 4, none⟩)) rfl rfl ?_; simp only [pS]; refine hS 3 (v := .pointer (some ⟨q, 4, none⟩)) rfl rfl ?_; simp only [pS]
  refine hC 4 (v := .slice (some ⟨g, oo, none⟩) n R.N.c) rfl rfl (fun w' h => by
    have hc := (HQD.out w' h).1
    go_simp) ?_
  simp only [pS]; refine hM 5 (v := ptr q) rfl rfl ?_; simp only [pS]; refine hS 6 (v := ptr q) rfl rfl ?_; simp only [pS]; refine hS 7 (v := .pointer (some ⟨q, 4, none⟩)) rfl rfl ?_; simp only [pS]; refine hS 8 (v := .pointer (some ⟨q, 5, none⟩)) rfl rfl ?_; simp only [pS]
  refine hC 9 (v := .int .i64 ((p : Int) - 1)) rfl rfl (fun w' h => by
    have hc := (HQD.out w' h).2.1
    go_simp) ?_
  simp only [pS]; refine hS 10 (v := .int .i64 (k : Int)) rfl rfl ?_; simp only [pS]; refine hS 11 (v := .pointer (some ⟨g, oo + k * 2, none⟩)) rfl rfl ?_; simp only [pS]; refine hL 12 45 (.tmp 31) rfl rfl rfl g (oo + k * 2) rfl #[.slice x.A x.n x.c, .slice x.B x.m x.d] _ (fun w' h => (HQD.out w' h).2.2) Tryz.underlying45 rfl ?_; simp only [pS]; refine hO 13 rfl rfl fun K hK => ?_; refine wp_store_partm 45 (.tmp 2) (.tmp 32) rfl gr 0 #[.slice x.A x.n x.c, .slice x.B x.m x.d] rfl rfl 45 _ #[.slice x.A x.n x.c, .slice x.B x.m x.d] (HG6.out.below HBD6.out HG6.out.lt) (by simp) (putA_all _ _ rfl) (by kernel_rfl) (by simp [Value.oneCell']) ?_; rintro w8 zm zs zb; have HZ8 : Sl _ := ⟨And.intro zm zb⟩; refine hK.out _ _ (Mv.trans (Mv.below HBD6.out) zm) (fun hHeld => ?_); clear hK K zm zs zb; simp only [pS]; refine hM 14 (v := .int .i64 0) rfl rfl ?_; simp only [pS]; refine wpAnyH_done (by kernel_rfl) ?_ _; clear hHeld; go_wp2_with fail; refine bodyPost_ret (results_row2c rfl _ _ gr _ _ _ rfl HZ8.out.2 Tryz.underlying45 rfl (by kernel_rfl)) rfl ?_; exact ⟨rfl, (HSV.out.1.below HBD6.out).keep (MvP.of_mv HZ8.out.1) (fun i hi e => by have := H.out.held_lt hi; have := HGE.out; omega), (HSV.out.2.trans (Foot.of_below HBD6.out)).above (MvP.of_mv HZ8.out.1) (fun i e => by rw [e]; exact HGE.out)⟩
theorem rUndo_no (base : Nat) (o : SpO) (m : SqM) (R : RqV) (w : World) (h : RQ w base o m R) (h0 : R.d = 0) :
    Calls Tryz.prog 16 #[ptr m.q] w fun en w' => en = .returned (.int .i64 4) ∧ Below w.heap.size w w' := by
  have H : Sl _ := ⟨h⟩; obtain ⟨q, hq⟩ : ∃ q, m.q = q := ⟨_, rfl⟩; obtain ⟨n, hnn⟩ : ∃ n, R.E.length = n := ⟨_, rfl⟩; obtain ⟨d, hdd⟩ : ∃ d, R.d = d := ⟨_, rfl⟩; have HQ : Sl (m.q = q ∧ R.E.length = n ∧ R.d = d) := ⟨⟨hq, hnn, hdd⟩⟩; have HB : Sl (Blk w q 41 (rqK o R.N m.EA n m.ec d)) := ⟨by have hb := h.blk; rw [rqC_k, hq, hnn, hdd] at hb; exact hb⟩; have c7 : w.cell? ⟨q, 7, none⟩ = some (.int .i64 0) := (by have hc : w.cell? ⟨q, 7, none⟩ = some (.int .i64 (d : Int)) := HB.out.cell 7; rw [show (d : Int) = 0 by omega] at hc; exact hc); rw [hq]; clear h h0 hq hnn hdd HB; go_enter Tryz.func16, Tryz.ntmps16; go_wp2_with fail; go_ret; exact ⟨rfl, Below.refl _ _⟩
theorem rUndo_any (base : Nat) (o : SpO) (m : SqM) (R : RqV) (x : StO × StO) (w : World) (h : RQ w base o m R) (h0 : R.d ≠ 0) (hd : R.d ≤ 1000) (hx : R.E[R.d - 1]? = some x) :
    Calls Tryz.prog 16 #[ptr m.q] w fun en w' => en = .returned (.int .i64 0) ∧ RQ w' base o m R.undo ∧ Foot m m w w' := by
  have H : Sl _ := ⟨h⟩; obtain ⟨q, hq⟩ : ∃ q, m.q = q := ⟨_, rfl⟩; obtain ⟨n, hnn⟩ : ∃ n, R.E.length = n := ⟨_, rfl⟩; obtain ⟨d, hdd⟩ : ∃ d, R.d = d := ⟨_, rfl⟩; have HQ : Sl (m.q = q ∧ R.E.length = n ∧ R.d = d) := ⟨⟨hq, hnn, hdd⟩⟩; have HB : Sl (Blk w q 41 (rqK o R.N m.EA n m.ec d)) := ⟨by have hb := h.blk; rw [rqC_k, hq, hnn, hdd] at hb; exact hb⟩; obtain ⟨k, rfl⟩ : ∃ k, d = k + 1 := ⟨d - 1, by omega⟩; rw [hdd, Nat.add_sub_cancel] at hx; obtain ⟨b, off, hA, hbb, hat, cs, hBE, hcs, hcc⟩ := h.ed.at2 hx rfl; have hkn : k < n := (by rw [← hnn]; exact (List.getElem?_eq_some_iff.1 hx).1); have HX : Sl (R.E[k]? = some x) := ⟨hx⟩; have HAT : Sl _ := ⟨hat⟩; have HBE : Sl _ := ⟨And.intro hBE (And.intro hcs hcc)⟩; have HA : Sl (m.EA = some ⟨b, off, none⟩ ∧ base ≤ b ∧ b ≠ q) := ⟨⟨hA, hbb, by rw [← hq]; exact h.ed.ne h.blk ⟨_, hA, rfl⟩⟩⟩; have hcap := h.ed.cap; have hkI : (k : Int) < (n : Int) := (by omega); have hk0 : (0 : Int) ≤ (k : Int) := (by omega); have hk1000 : (k : Int) < 1000 := (by omega); have hnc : (n : Int) ≤ (m.ec : Int) := (by omega); have hz0 : ((k : Int) + 1 == 0) = false := (by simp; omega); have hz1 : ¬ (k : Int) + 1 = 0 := (by omega); have c7 : w.cell? ⟨q, 7, none⟩ = some (.int .i64 ((k : Int) + 1)) := HB.out.cell 7; rw [hA] at HB; rw [hq]; clear h h0 hd hx hkn hA hbb hat hBE hcs hcc hcap hq hnn hdd; go_enter Tryz.func16, Tryz.ntmps16
  go_upto_region 4 with ((with_reducible show wpList _ _ _ _ _ _); (refine wpList_store_cell rfl 3 (.tmp 14) (.tmp 12) rfl q 7 (.int .i64 (k : Int)) rfl rfl 41 _ (rqK o R.N (some ⟨b, off, none⟩) n m.ec k) HB.out (by simp [rqK]) rfl (by kernel_rfl) rfl rfl ?_; rintro w3 zm zs zb zw; have HZ : Sl _ := ⟨And.intro zm zb⟩; clear zm zs zb zw))
  clear c7; have hm3 : Below w3.heap.size w3 w3.drew := below_drewN (Below.refl _ _) 1; have HBD3 : Sl _ := ⟨hm3⟩; have HQB3 : Sl (∀ W, Mv b w3 W → Blk W q 41 (rqK o R.N (some ⟨b, off, none⟩) n m.ec k)) := ⟨fun W hW => HZ.out.2.mv hW (fun e => HA.out.2.2 e.symm)⟩; have HBE3 : Sl (Blk w3.drew b 114 cs) := ⟨(HBE.out.1.mv HZ.out.1 HA.out.2.2).below hm3 (HBE.out.1.mv HZ.out.1 HA.out.2.2).lt⟩; have hm := Mv.below (g := b) hm3; refine wp_region_held_drew (S := fun w' => Mv b w3 w') (by kernel_rfl) hm (fun hHeld => ?_); clear hm; refine hM 0 (v := ptr q) rfl rfl ?_; simp only [pS]; refine hS 1 (v := ptr q) rfl rfl ?_; simp only [pS]; refine hS 2 (v := .pointer (some ⟨q, 6, none⟩)) rfl rfl ?_; simp only [pS]
  refine hC 3 (v := .slice (some ⟨b, off, none⟩) n m.ec) rfl rfl (fun w' h => by
    have hc : w'.cell? ⟨q, 6, none⟩ = some (.slice (some ⟨b, off, none⟩) n m.ec) := (HQB3.out w' h).cell 6
    go_simp) ?_
  simp only [pS]; refine hM 4 (v := ptr q) rfl rfl ?_; simp only [pS]; refine hS 5 (v := ptr q) rfl rfl ?_; simp only [pS]; refine hS 6 (v := .pointer (some ⟨q, 7, none⟩)) rfl rfl ?_; simp only [pS]
  refine hC 7 (v := .int .i64 (k : Int)) rfl rfl (fun w' h => by
    have hc : w'.cell? ⟨q, 7, none⟩ = some (.int .i64 (k : Int)) := (HQB3.out w' h).cell 7
    go_simp) ?_
  simp only [pS]; refine hM 8 (v := ptr q) rfl rfl ?_; simp only [pS]; refine hS 9 (v := ptr q) rfl rfl ?_; simp only [pS]; refine hS 10 (v := .pointer (some ⟨q, 4, none⟩)) rfl rfl ?_; simp only [pS]; refine hL 11 38 (.tmp 25) rfl rfl rfl q 4 rfl #[.slice R.N.A R.N.L.length R.N.c, .int .i64 (R.N.p : Int)] _ (fun w' h => by have := World.rangeAt_of_block (HQB3.out w' h) 4 2; exact this) Tryz.underlying38 rfl ?_; simp only [pS]; refine hS 12 (v := .pointer (some ⟨b, off + k * 4, none⟩)) rfl rfl ?_; simp only [pS]; refine hS 13 (v := .pointer (some ⟨b, off + k * 4 + 2, none⟩)) rfl rfl ?_; simp only [pS]; refine hO 14 rfl rfl fun K hK => ?_; refine wp_store_partm 38 (.tmp 28) (.tmp 26) rfl b (off + k * 4 + 2) #[.slice R.N.A R.N.L.length R.N.c, .int .i64 (R.N.p : Int)] rfl rfl 114 _ _ HBE3.out (by have h1 := HBE.out.2.1; have h2 := HQ.out.2.1; have h3 := (List.getElem?_eq_some_iff.1 HX.out).1; show off + k * 4 + 2 + 2 ≤ _; omega) rfl (by kernel_rfl) (by simp [Value.oneCell']) ?_; rintro w4 zm zs zb; have HZ4 : Sl _ := ⟨And.intro zm zb⟩; refine hK.out _ _ (Mv.trans (Mv.below HBD3.out) zm) (fun hHeld => ?_); clear hK K zm zs zb hm3; simp only [pS]; refine wpAnyH_done (by kernel_rfl) ?_ _; clear hHeld
  have HE4 : Sl (ERow w4 base m.EA n m.ec ((R.E.set k (x.1, R.N)).flatMap edR)) := ⟨by
    have hl : (R.E.set k (x.1, R.N)).length = n := (by rw [List.length_set]; exact HQ.out.2.1); have hcap := H.out.ed.cap; rw [HQ.out.2.1] at hcap; refine ⟨?_, hcap, edR_one _, .inr ⟨b, off, _, HA.out.1, HA.out.2.1, HZ4.out.2, ?_, ?_⟩⟩
    · have h := H.out.ed.len
      have h2 : ∀ L : List (StO × StO), (L.flatMap edR).length = L.length * 4 := fun L => by
        induction L with
        | nil => rfl
        | cons y L ih => rw [List.flatMap_cons, List.length_append, ih, List.length_cons, edR_len]; omega
      rw [h2, hl]
    · rw [putA_size]; have := HBE.out.2.1; rw [HQ.out.2.1] at this; exact this
    · exact edR_set HX.out HQ.out.2.1 (by have := HBE.out.2.1; rw [HQ.out.2.1] at this; exact this) HBE.out.2.2⟩
  have HQ4 : Sl (Blk w4 q 41 (rqK o R.N (some ⟨b, off, none⟩) n m.ec k)) := ⟨HQB3.out w4 (Mv.trans (Mv.below HBD3.out) HZ4.out.1)⟩; have HM4 : Sl (MvP m.own w w4) := ⟨((MvP.of_mv HZ.out.1).mono (fun i e => (.inl (e.trans HQ.out.1.symm) : m.own i))).trans (((MvP.of_below HBD3.out).mono (fun i e => e.elim)).trans ((MvP.of_mv HZ4.out.1).mono (fun i e => .inr (.inr ⟨_, HA.out.1, e.symm⟩))))⟩; have hget : (R.E.set k (x.1, R.N))[k]? = some (x.1, R.N) := List.getElem?_set_self (List.getElem?_eq_some_iff.1 HX.out).1; obtain ⟨b', off', hA', _, hat', _⟩ := HE4.out.at2 hget (by rw [List.length_set]; exact HQ.out.2.1); have HEQ : Sl (b' = b ∧ off' = off) := ⟨by have h := HA.out.1; rw [hA'] at h; injection h with h; injection h with h1 h2; exact ⟨h1, h2⟩⟩
  have HQB : Sl (∀ W, Below w4.heap.size w4 W → Blk W q 41 (rqK o R.N (some ⟨b, off, none⟩) n m.ec k) ∧ W.rangeAt b (off + k * 4) [.slice x.1.A x.1.L.length x.1.c, .int .i64 (x.1.p : Int)]) := ⟨fun W hW => ⟨HQ4.out.below hW HQ4.out.lt, by
    have h := (hat' W (HE4.out.keep (MvP.of_below hW) (fun _ _ e => e))).1; rw [HEQ.out.1, HEQ.out.2] at h
    exact h⟩⟩
  clear hget hA' hat'
  go_upto_region 5 with fail
  have hm0 : Below w4.heap.size w4 w4.drew := below_drewN (Below.refl _ _) 1; have HBD9 : Sl _ := ⟨hm0⟩; have hm := hm0; refine wp_region_E (S := fun w' => Below w4.heap.size w4 w') 14 (by kernel_rfl) hm (fun hHeld => ?_); clear hm; refine fM 0 (v := ptr q) rfl rfl ?_; simp only [pS]; refine fM 1 (v := ptr q) rfl rfl ?_; simp only [pS]; refine fS 2 (v := ptr q) rfl rfl ?_; simp only [pS]; refine fS 3 (v := .pointer (some ⟨q, 6, none⟩)) rfl rfl ?_; simp only [pS]
  refine fC 4 (v := .slice (some ⟨b, off, none⟩) n m.ec) rfl rfl (fun w' h => by
    have hc : w'.cell? ⟨q, 6, none⟩ = some (.slice (some ⟨b, off, none⟩) n m.ec) := (HQB.out w' h).1.cell 6
    go_simp) ?_
  simp only [pS]; refine fM 5 (v := ptr q) rfl rfl ?_; simp only [pS]; refine fS 6 (v := ptr q) rfl rfl ?_; simp only [pS]; refine fS 7 (v := .pointer (some ⟨q, 7, none⟩)) rfl rfl ?_; simp only [pS]
  refine fC 8 (v := .int .i64 (k : Int)) rfl rfl (fun w' h => by
    have hc : w'.cell? ⟨q, 7, none⟩ = some (.int .i64 (k : Int)) := (HQB.out w' h).1.cell 7
    go_simp) ?_
  simp only [pS]; refine fS 9 (v := .pointer (some ⟨b, off + k * 4, none⟩)) rfl rfl ?_; simp only [pS]; refine fS 10 (v := .pointer (some ⟨b, off + k * 4, none⟩)) rfl rfl ?_; simp only [pS]; refine fL 11 38 (.tmp 39) rfl rfl rfl b (off + k * 4) rfl #[.slice x.1.A x.1.L.length x.1.c, .int .i64 (x.1.p : Int)] _ (fun w' h => (HQB.out w' h).2) Tryz.underlying38 rfl ?_; simp only [pS]; refine fS 12 (v := ptr q) rfl rfl ?_; simp only [pS]; refine fS 13 (v := .pointer (some ⟨q, 4, none⟩)) rfl rfl ?_; simp only [pS]; refine eO 14 rfl rfl fun K hK => ?_; refine wp_store_partm 38 (.tmp 42) (.tmp 40) rfl q 4 #[.slice x.1.A x.1.L.length x.1.c, .int .i64 (x.1.p : Int)] rfl rfl 41 _ (rqK o x.1 (some ⟨b, off, none⟩) n m.ec k) (HQB.out _ HBD9.out).1 (by simp [rqK]) rfl (by kernel_rfl) (by simp [Value.oneCell']) ?_; rintro w6 zm zs zb; have HZ6 : Sl _ := ⟨And.intro zm zb⟩; clear zm zs zb; refine hK.out _ _ (fun h => absurd rfl h) (fun hHeld => ?_); clear hK K
  (try simp only [pS])
  refine wpAnyE_done (by kernel_rfl) ?_ _; clear hHeld; go_wp2_with fail; go_ret; have hmw : MvP m.own w w6 := HM4.out.trans (((MvP.of_below HBD9.out).mono (fun i e => e.elim)).trans ((MvP.of_mv HZ6.out.1).mono (fun i e => .inl (e.trans HQ.out.1.symm)))); have hq4 : MvP (fun i => i = q) w4 w6 := ((MvP.of_below HBD9.out).mono (fun i e => e.elim)).trans (MvP.of_mv HZ6.out.1)
  have hres := H.out.edits (w' := w6) (EA := m.EA) (ec := m.ec) (s := x.1) (E := R.E.set k (x.1, R.N)) (d := k)
    (by rw [rqC_k, HQ.out.1, List.length_set, HQ.out.2.1]; show Blk w6 q 41 (rqK o x.1 m.EA n m.ec k); rw [HA.out.1]; exact HZ6.out.2)
    (by rw [List.length_set, HQ.out.2.1]; exact HE4.out.keep hq4 (fun i hi e => by obtain ⟨ad, e1, e2⟩ := hi; rw [HA.out.1] at e1; injection e1 with e1; subst e1; exact HA.out.2.2 (e2.trans e)))
    hmw (fun i hi => .inl (.inr (.inr hi))) (H.out.ev x (List.mem_of_getElem? HX.out)).1 (fun e he => by
      rcases List.mem_or_eq_of_mem_set he with he | rfl
      · exact H.out.ev e he
      · exact ⟨(H.out.ev x (List.mem_of_getElem? HX.out)).1, H.out.nw⟩)
  have hu : R.undo = ⟨x.1, R.E.set k (x.1, R.N), k⟩ := (by rw [RqV.undo_at (x := x) (by rw [HQ.out.2.2, Nat.add_sub_cancel]; exact HX.out), HQ.out.2.2, Nat.add_sub_cancel]); rw [hu]; exact ⟨rfl, hres.1, hres.2⟩
theorem rRedo_no (base : Nat) (o : SpO) (m : SqM) (R : RqV) (w : World) (h : RQ w base o m R) (h0 : R.d = R.E.length) :
    Calls Tryz.prog 79 #[ptr m.q] w fun en w' => en = .returned (.int .i64 4) ∧ Below w.heap.size w w' := by
  have H : Sl _ := ⟨h⟩; obtain ⟨q, hq⟩ : ∃ q, m.q = q := ⟨_, rfl⟩; obtain ⟨n, hnn⟩ : ∃ n, R.E.length = n := ⟨_, rfl⟩; obtain ⟨d, hdd⟩ : ∃ d, R.d = d := ⟨_, rfl⟩; have HQ : Sl (m.q = q ∧ R.E.length = n ∧ R.d = d) := ⟨⟨hq, hnn, hdd⟩⟩; have HB : Sl (Blk w q 41 (rqK o R.N m.EA n m.ec d)) := ⟨by have hb := h.blk; rw [rqC_k, hq, hnn, hdd] at hb; exact hb⟩; have hdn : ((d : Int) == (n : Int)) = true := (by simp; omega); have hdI : (d : Int) = (n : Int) := (by omega); rw [hq]; clear h h0 hq hnn hdd; go_enter Tryz.func79, Tryz.ntmps79; go_wp2_with fail; have hm1 : Below w.heap.size w w.drew := below_drewN (Below.refl _ _) 1; have HBD : Sl _ := ⟨hm1⟩; have HQB1 : Sl (∀ W, Below w.heap.size w W → Blk W q 41 (rqK o R.N m.EA n m.ec d)) := ⟨fun W hW => HB.out.below hW HB.out.lt⟩; have hm := hm1; refine wp_region_held_drew (S := fun w' => Below w.heap.size w w') (by kernel_rfl) hm (fun hHeld => ?_); clear hm; refine hM 0 (v := ptr q) rfl rfl ?_; simp only [pS]; refine hS 1 (v := ptr q) rfl rfl ?_; simp only [pS]; refine hS 2 (v := .pointer (some ⟨q, 7, none⟩)) rfl rfl ?_; simp only [pS]
  refine hC 3 (v := .int .i64 (d : Int)) rfl rfl (fun w' h => by
    have hc : w'.cell? ⟨q, 7, none⟩ = some (.int .i64 (d : Int)) := (HQB1.out w' h).cell 7
    go_simp) ?_
  simp only [pS]; refine hM 4 (v := ptr q) rfl rfl ?_; simp only [pS]; refine hS 5 (v := ptr q) rfl rfl ?_; simp only [pS]; refine hS 6 (v := .pointer (some ⟨q, 6, none⟩)) rfl rfl ?_; simp only [pS]
  refine hC 7 (v := .slice m.EA n m.ec) rfl rfl (fun w' h => by
    have hc : w'.cell? ⟨q, 6, none⟩ = some (.slice m.EA n m.ec) := (HQB1.out w' h).cell 6
    go_simp) ?_
  simp only [pS]; refine hS 8 (v := .int .i64 (n : Int)) rfl rfl ?_; simp only [pS]; refine hS 9 (v := .bool true) rfl rfl ?_; simp only [pS]; refine wpAnyH_done (by kernel_rfl) ?_ _; clear hHeld hm1; go_wp2_with fail; go_ret; exact ⟨rfl, HBD.out⟩
theorem rRedo_any (base : Nat) (o : SpO) (m : SqM) (R : RqV) (x : StO × StO) (w : World) (h : RQ w base o m R) (hd : R.d ≤ 1000) (hx : R.E[R.d]? = some x) :
    Calls Tryz.prog 79 #[ptr m.q] w fun en w' => en = .returned (.int .i64 0) ∧ RQ w' base o m R.redo ∧ Foot m m w w' := by
  have H : Sl _ := ⟨h⟩; obtain ⟨q, hq⟩ : ∃ q, m.q = q := ⟨_, rfl⟩; obtain ⟨n, hnn⟩ : ∃ n, R.E.length = n := ⟨_, rfl⟩; obtain ⟨d, hdd⟩ : ∃ d, R.d = d := ⟨_, rfl⟩; have HQ : Sl (m.q = q ∧ R.E.length = n ∧ R.d = d) := ⟨⟨hq, hnn, hdd⟩⟩; have HB : Sl (Blk w q 41 (rqK o R.N m.EA n m.ec d)) := ⟨by have hb := h.blk; rw [rqC_k, hq, hnn, hdd] at hb; exact hb⟩; rw [hdd] at hx; obtain ⟨b, off, hA, hbb, hat, cs, hBE, hcs, hcc⟩ := h.ed.at2 hx rfl; have hkn : d < n := (by rw [← hnn]; exact (List.getElem?_eq_some_iff.1 hx).1); have HX : Sl (R.E[d]? = some x) := ⟨hx⟩; have HAT : Sl _ := ⟨hat⟩; have HA : Sl (m.EA = some ⟨b, off, none⟩ ∧ b ≠ q) := ⟨⟨hA, by rw [← hq]; exact h.ed.ne h.blk ⟨_, hA, rfl⟩⟩⟩; have hcap := h.ed.cap; have hkI : (d : Int) < (n : Int) := (by omega); have hk0 : (0 : Int) ≤ (d : Int) := (by omega); have hk1000 : (d : Int) ≤ 1000 := (by omega); have hnc : (n : Int) ≤ (m.ec : Int) := (by omega); have hdn : ((d : Int) == (n : Int)) = false := (by simp; omega); have hdI : ¬ (d : Int) = (n : Int) := (by omega); rw [hq]; clear h hd hx hkn hA hbb hat hBE hcs hcc hcap hq hnn hdd; go_enter Tryz.func79, Tryz.ntmps79; go_wp2_with fail; have hm1 : Below w.heap.size w w.drew := below_drewN (Below.refl _ _) 1; have HBD : Sl _ := ⟨hm1⟩; have HQB1 : Sl (∀ W, Below w.heap.size w W → Blk W q 41 (rqK o R.N m.EA n m.ec d)) := ⟨fun W hW => HB.out.below hW HB.out.lt⟩; have hm := hm1; refine wp_region_held_drew (S := fun w' => Below w.heap.size w w') (by kernel_rfl) hm (fun hHeld => ?_); clear hm; refine hM 0 (v := ptr q) rfl rfl ?_; simp only [pS]; refine hS 1 (v := ptr q) rfl rfl ?_; simp only [pS]; refine hS 2 (v := .pointer (some ⟨q, 7, none⟩)) rfl rfl ?_; simp only [pS]
  refine hC 3 (v := .int .i64 (d : Int)) rfl rfl (fun w' h => by
    have hc : w'.cell? ⟨q, 7, none⟩ = some (.int .i64 (d : Int)) := (HQB1.out w' h).cell 7
    go_simp) ?_
  simp only [pS]; refine hM 4 (v := ptr q) rfl rfl ?_; simp only [pS]; refine hS 5 (v := ptr q) rfl rfl ?_; simp only [pS]; refine hS 6 (v := .pointer (some ⟨q, 6, none⟩)) rfl rfl ?_; simp only [pS]
  refine hC 7 (v := .slice m.EA n m.ec) rfl rfl (fun w' h => by
    have hc : w'.cell? ⟨q, 6, none⟩ = some (.slice m.EA n m.ec) := (HQB1.out w' h).cell 6
    go_simp) ?_
  simp only [pS]; refine hS 8 (v := .int .i64 (n : Int)) rfl rfl ?_; simp only [pS]; refine hS 9 (v := .bool false) rfl rfl ?_; simp only [pS]; refine wpAnyH_done (by kernel_rfl) ?_ _; clear hHeld hm1
  go_upto_region 3 with fail
  have HB2 : Sl (Blk w.drew q 41 (rqK o R.N (some ⟨b, off, none⟩) n m.ec d)) := ⟨by have h := HQB1.out _ HBD.out; rw [HA.out.1] at h; exact h⟩; have HS2 : Sl (RQ w.drew base o m R) := ⟨H.out.below HBD.out⟩; clear HB HQB1; generalize w.drew = w4 at *
  have HQB : Sl (∀ W, Below w4.heap.size w4 W → Blk W q 41 (rqK o R.N (some ⟨b, off, none⟩) n m.ec d) ∧ W.rangeAt b (off + d * 4 + 2) [.slice x.2.A x.2.L.length x.2.c, .int .i64 (x.2.p : Int)]) := ⟨fun W hW => ⟨HB2.out.below hW HB2.out.lt, (HAT.out W (HS2.out.below hW).ed).2⟩⟩; have hm0 : Below w4.heap.size w4 w4.drew := below_drewN (Below.refl _ _) 1; have HBD9 : Sl _ := ⟨hm0⟩; have hm := hm0; refine wp_region_E (S := fun w' => Below w4.heap.size w4 w') 14 (by kernel_rfl) hm (fun hHeld => ?_); clear hm; refine fM 0 (v := ptr q) rfl rfl ?_; simp only [pS]; refine fM 1 (v := ptr q) rfl rfl ?_; simp only [pS]; refine fS 2 (v := ptr q) rfl rfl ?_; simp only [pS]; refine fS 3 (v := .pointer (some ⟨q, 6, none⟩)) rfl rfl ?_; simp only [pS]
  refine fC 4 (v := .slice (some ⟨b, off, none⟩) n m.ec) rfl rfl (fun w' h => by
    have hc : w'.cell? ⟨q, 6, none⟩ = some (.slice (some ⟨b, off, none⟩) n m.ec) := (HQB.out w' h).1.cell 6
    go_simp) ?_
  simp only [pS]; refine fM 5 (v := ptr q) rfl rfl ?_; simp only [pS]; refine fS 6 (v := ptr q) rfl rfl ?_; simp only [pS]; refine fS 7 (v := .pointer (some ⟨q, 7, none⟩)) rfl rfl ?_; simp only [pS]
  refine fC 8 (v := .int .i64 (d : Int)) rfl rfl (fun w' h => by
    have hc : w'.cell? ⟨q, 7, none⟩ = some (.int .i64 (d : Int)) := (HQB.out w' h).1.cell 7
    go_simp) ?_
  simp only [pS]; refine fS 9 (v := .pointer (some ⟨b, off + d * 4, none⟩)) rfl rfl ?_; simp only [pS]; refine fS 10 (v := .pointer (some ⟨b, off + d * 4 + 2, none⟩)) rfl rfl ?_; simp only [pS]; refine fL 11 38 (.tmp 23) rfl rfl rfl b (off + d * 4 + 2) rfl #[.slice x.2.A x.2.L.length x.2.c, .int .i64 (x.2.p : Int)] _ (fun w' h => (HQB.out w' h).2) Tryz.underlying38 rfl ?_; simp only [pS]; refine fS 12 (v := ptr q) rfl rfl ?_; simp only [pS]; refine fS 13 (v := .pointer (some ⟨q, 4, none⟩)) rfl rfl ?_; simp only [pS]; refine eO 14 rfl rfl fun K hK => ?_; refine wp_store_partm 38 (.tmp 26) (.tmp 24) rfl q 4 #[.slice x.2.A x.2.L.length x.2.c, .int .i64 (x.2.p : Int)] rfl rfl 41 _ (rqK o x.2 (some ⟨b, off, none⟩) n m.ec d) (HQB.out _ HBD9.out).1 (by simp [rqK]) rfl (by kernel_rfl) (by simp [Value.oneCell']) ?_; rintro w6 zm zs zb; have HZ6 : Sl _ := ⟨And.intro zm zb⟩; clear zm zs zb; refine hK.out _ _ (fun h => absurd rfl h) (fun hHeld => ?_); clear hK K
  (try simp only [pS])
  refine wpAnyE_done (by kernel_rfl) ?_ _; clear hHeld; have c7 : w6.cell? ⟨q, 7, none⟩ = some (.int .i64 (d : Int)) := HZ6.out.2.cell 7; go_wp2_with ((with_reducible show wpList _ _ _ _ _ _); (refine wpList_store_cell rfl 3 (.tmp 33) (.tmp 31) rfl q 7 (.int .i64 ((d : Int) + 1)) rfl rfl 41 _ (rqK o x.2 (some ⟨b, off, none⟩) n m.ec (d + 1)) HZ6.out.2 (by simp [rqK]) rfl (by kernel_rfl) rfl rfl ?_; rintro w7 zm zs zb zw; have HZ7 : Sl _ := ⟨And.intro zm zb⟩; clear zm zs zb zw)); go_ret; have hq4 : MvP (fun i => i = m.q) w w7 := (((MvP.of_below (HBD.out)).mono (fun i e => e.elim)).trans (((MvP.of_below HBD9.out).mono (fun i e => e.elim)).trans ((MvP.of_mv HZ6.out.1).trans (MvP.of_mv HZ7.out.1)))).mono (fun i e => e.trans HQ.out.1.symm); have hres := H.out.set (w' := w7) (s := x.2) (d := d + 1) (by rw [rqC_k, HQ.out.1]; show Blk w7 q 41 (rqK o x.2 m.EA R.E.length m.ec (d + 1)); rw [HA.out.1, HQ.out.2.1]; exact HZ7.out.2) hq4 (H.out.ev x (List.mem_of_getElem? HX.out)).2; have hu : R.redo = ⟨x.2, R.E, d + 1⟩ := (by rw [RqV.redo_at (x := x) (by rw [HQ.out.2.2]; exact HX.out), HQ.out.2.2]); rw [hu]; exact ⟨rfl, hres.1, hres.2⟩
def letC (b : UInt8) : Bool := (decide (65 ≤ b.toNat) && decide (b.toNat ≤ 90)) || (decide (97 ≤ b.toNat) && decide (b.toNat ≤ 122))
def okC (i : Nat) (b : UInt8) : Bool := letC b || (decide (i ≠ 0) && (decide (b.toNat = 95) || (decide (48 ≤ b.toNat) && decide (b.toNat ≤ 57))))
def nameC (s : ByteArray) : Bool := decide ((1 ≤ s.size ∧ s.size ≤ 16) ∧ ∀ i, (h : i < s.size) → okC i s[i] = true)
theorem nameC_false {s : ByteArray} {k : Nat} (hk : k < s.size) (h : okC k s[k] = false) : nameC s = false := by
  unfold nameC; rw [decide_eq_false_iff_not]; rintro ⟨_, h2⟩; rw [h2 k hk] at h
  cases h
theorem nameC_size {s : ByteArray} (h : s.size < 1 ∨ 16 < s.size) : nameC s = false := by
  unfold nameC; rw [decide_eq_false_iff_not]; rintro ⟨h1, _⟩; omega
theorem nameC_true {s : ByteArray} (h : 1 ≤ s.size ∧ s.size ≤ 16) (h2 : ∀ i, (h : i < s.size) → okC i s[i] = true) : nameC s = true := by
  unfold nameC; rw [decide_eq_true_iff]; exact ⟨h, h2⟩
theorem r1let_c (b : UInt8) (w : World) : Calls Tryz.prog 158 #[.int .u8 (b.toNat : Int)] w fun e w' => e = .returned (.bool (letC b)) ∧ w' = w := by
  by_cases h1 : 97 ≤ b.toNat
  · have b1 : decide ((97 : Int) ≤ (b.toNat : Int)) = true := (by rw [decide_eq_true_iff]; omega)
    by_cases h2 : b.toNat ≤ 122
    · have b2 : decide ((b.toNat : Int) ≤ 122) = true := (by rw [decide_eq_true_iff]; omega); have HF : Sl (letC b = true) := ⟨by unfold letC; rw [decide_eq_true h1, decide_eq_true h2]; simp⟩; clear h1 h2; go_enter Tryz.func158, Tryz.ntmps158; go_wp2_with fail; go_ret; rw [HF.out]; exact ⟨rfl, rfl⟩
    · have b2 : decide ((b.toNat : Int) ≤ 122) = false := (by rw [decide_eq_false_iff_not]; omega); have b3 : decide ((65 : Int) ≤ (b.toNat : Int)) = true := (by rw [decide_eq_true_iff]; omega); have b4 : decide ((b.toNat : Int) ≤ 90) = false := (by rw [decide_eq_false_iff_not]; omega); have HF : Sl (letC b = false) := ⟨by unfold letC; rw [decide_eq_false h2, decide_eq_false (p := b.toNat ≤ 90) (by omega)]; simp⟩; clear h1 h2; go_enter Tryz.func158, Tryz.ntmps158; go_wp2_with fail; go_ret; rw [HF.out]; exact ⟨rfl, rfl⟩
  · have b1 : decide ((97 : Int) ≤ (b.toNat : Int)) = false := (by rw [decide_eq_false_iff_not]; omega)
    by_cases h3 : 65 ≤ b.toNat
    · have b3 : decide ((65 : Int) ≤ (b.toNat : Int)) = true := (by rw [decide_eq_true_iff]; omega)
      by_cases h4 : b.toNat ≤ 90
      · have b4 : decide ((b.toNat : Int) ≤ 90) = true := (by rw [decide_eq_true_iff]; omega); have HF : Sl (letC b = true) := ⟨by unfold letC; rw [decide_eq_true h3, decide_eq_true h4]; simp⟩; clear h1 h3 h4; go_enter Tryz.func158, Tryz.ntmps158; go_wp2_with fail; go_ret; rw [HF.out]; exact ⟨rfl, rfl⟩
      · have b4 : decide ((b.toNat : Int) ≤ 90) = false := (by rw [decide_eq_false_iff_not]; omega); have HF : Sl (letC b = false) := ⟨by unfold letC; rw [decide_eq_false h4, decide_eq_false h1]; simp⟩; clear h1 h3 h4; go_enter Tryz.func158, Tryz.ntmps158; go_wp2_with fail; go_ret; rw [HF.out]; exact ⟨rfl, rfl⟩
    · have b3 : decide ((65 : Int) ≤ (b.toNat : Int)) = false := (by rw [decide_eq_false_iff_not]; omega); have HF : Sl (letC b = false) := ⟨by unfold letC; rw [decide_eq_false h3, decide_eq_false h1]; simp⟩; clear h1 h3; go_enter Tryz.func158, Tryz.ntmps158; go_wp2_with fail; go_ret; rw [HF.out]; exact ⟨rfl, rfl⟩
theorem r1dig_c (b : UInt8) (w : World) : Calls Tryz.prog 159 #[.int .u8 (b.toNat : Int)] w fun e w' => e = .returned (.bool (decide (48 ≤ b.toNat) && decide (b.toNat ≤ 57))) ∧ w' = w := by
  by_cases h : 48 ≤ b.toNat
  · have hb : decide ((48 : Int) ≤ (b.toNat : Int)) = true := (by rw [decide_eq_true_iff]; omega); go_enter Tryz.func159, Tryz.ntmps159; go_wp2_with fail; go_ret; rw [decide_eq_true h, Bool.true_and]
    by_cases h2 : b.toNat ≤ 57
    · rw [decide_eq_true h2, decide_eq_true (by omega)]; exact ⟨rfl, rfl⟩
    · rw [decide_eq_false h2, decide_eq_false (by omega)]; exact ⟨rfl, rfl⟩
  · have hb : decide ((48 : Int) ≤ (b.toNat : Int)) = false := (by rw [decide_eq_false_iff_not]; omega); go_enter Tryz.func159, Tryz.ntmps159; go_wp2_with fail; go_ret; rw [decide_eq_false h, Bool.false_and]; exact ⟨rfl, rfl⟩
theorem r1nam_c (s : ByteArray) (w : World) (hs : s.size ≤ maxLen) : Calls Tryz.prog 116 #[.string s] w fun e w' => e = .returned (.bool (nameC s)) ∧ Below w.heap.size w w' := by
  unfold maxLen at hs
  by_cases h1 : s.size < 1
  · have HF : Sl (nameC s = false) := ⟨nameC_size (.inl h1)⟩; go_enter Tryz.func116, Tryz.ntmps116; go_wp2_with fail; go_ret; rw [HF.out]; exact ⟨rfl, Below.refl _ _⟩
  by_cases h2 : 16 < s.size
  · have HF : Sl (nameC s = false) := ⟨nameC_size (.inr h2)⟩; go_enter Tryz.func116, Tryz.ntmps116; go_wp2_with fail; go_ret; rw [HF.out]; exact ⟨rfl, Below.refl _ _⟩
  have h0 : 0 < s.size := (by omega); have HL0 : Sl (∀ W : World, Calls Tryz.prog 158 #[.int .u8 (s[0].toNat : Int)] W fun e w' => e = .returned (.bool (letC s[0])) ∧ w' = W) := ⟨fun W => r1let_c s[0] W⟩; have HOK0 : Sl (okC 0 s[0] = letC s[0]) := ⟨by unfold okC; simp⟩; have HF0 : Sl (okC 0 s[0] = false → nameC s = false) := ⟨fun h => nameC_false h0 h⟩; generalize hL : letC s[0] = L at *
  go_enter Tryz.func116, Tryz.ntmps116; go_wp2_with fail; refine (HL0.out _).mono ?_; rintro e w1 ⟨rfl, rfl⟩
  cases L
  · have HF : Sl _ := ⟨HF0.out HOK0.out⟩; clear HF0 HOK0 hL; go_wp2_with fail; go_ret; rw [HF.out]; exact ⟨rfl, Below.refl _ _⟩
  have HLT : Sl (letC s[0] = true) := ⟨hL⟩; clear hL HF0 HOK0 HL0; go_wp2_with fail
  go_loopw [3] (fun s3 wr => ∃ k : Nat, k ≤ s.size ∧ s3 = .int .i64 k ∧ Sl (∀ i, (h : i < s.size) → i < k → okC i s[i] = true) ∧ Below w1.heap.size w1 wr) (fun s3 _ => s.size - (RowKit.intOf s3).toNat)
  case atStart => exact ⟨0, Nat.zero_le _, rfl, ⟨fun i _ h => absurd h (Nat.not_lt_zero _)⟩, Below.refl _ _⟩
  case round =>
    obtain ⟨k, hk, rfl, HV, hB⟩ := hrel
    by_cases hlt : k < s.size
    · have HL : Sl (∀ W : World, Calls Tryz.prog 158 #[.int .u8 (s[k].toNat : Int)] W fun e w' => e = .returned (.bool (letC s[k])) ∧ w' = W) := ⟨fun W => r1let_c s[k] W⟩; have HD : Sl (∀ W : World, Calls Tryz.prog 159 #[.int .u8 (s[k].toNat : Int)] W fun e w' => e = .returned (.bool (decide (48 ≤ s[k].toNat) && decide (s[k].toNat ≤ 57))) ∧ w' = W) := ⟨fun W => r1dig_c s[k] W⟩; have hb8 : (s[k].toNat : Int) < 256 := (by have := s[k].toNat_lt; omega); have HOK : Sl (okC k s[k] = (letC s[k] || (decide (k ≠ 0) && (decide (s[k].toNat = 95) || (decide (48 ≤ s[k].toNat) && decide (s[k].toNat ≤ 57)))))) := ⟨rfl⟩
      have HNX : Sl (okC k s[k] = true → ∀ i, (h : i < s.size) → i < k + 1 → okC i s[i] = true) := ⟨fun h i hi h2 => by
        rcases Nat.lt_or_ge i k with g | g
        · exact HV.out i hi g
        · obtain rfl : i = k := (by omega)
          exact h⟩
      have HNF : Sl (okC k s[k] = false → nameC s = false) := ⟨fun h => nameC_false hlt h⟩; have HK0 : Sl (letC s[k] = false → k ≠ 0) := ⟨fun h h2 => by subst h2; rw [HLT.out] at h; cases h⟩; clear HV; generalize hL : letC s[k] = L at *
      generalize (decide (48 ≤ s[k].toNat) && decide (s[k].toNat ≤ 57)) = D at *
      clear hL; go_wp2_with fail; refine (HL.out _).mono ?_; rintro e w2 ⟨rfl, rfl⟩
      cases L
      · have h0 := HK0.out rfl; clear HK0
        cases D
        · by_cases h5 : s[k].toNat = 95
          · have hT := HNX.out (by rw [HOK.out, decide_eq_true h0, decide_eq_true h5]; rfl); have HT : Sl _ := ⟨hT⟩; have h95 : ((s[k].toNat : Int) != 95) = false := (by rw [bne_eq_false_iff_eq]; omega); clear hT HNF HNX HOK h5; go_wp2_with fail; refine (HD.out _).mono ?_; rintro e w3 ⟨rfl, rfl⟩; go_wp2_with fail; exact ⟨⟨k + 1, hlt, by go_num, HT, hB⟩, by simp [RowKit.intOf]; try omega⟩
          · have h95 : ((s[k].toNat : Int) != 95) = true := (by rw [bne_iff_ne]; omega); have HF := HNF.out (by rw [HOK.out, decide_eq_false h5, Bool.or_false, Bool.and_false]; rfl); have HFS : Sl _ := ⟨HF⟩; clear HF HNF HNX HOK h5; go_wp2_with fail; refine (HD.out _).mono ?_; rintro e w3 ⟨rfl, rfl⟩; go_wp2_with fail; go_ret; rw [HFS.out]; exact ⟨rfl, hB⟩
        · have hT := HNX.out (by rw [HOK.out, decide_eq_true h0, Bool.or_true]; rfl); have HT : Sl _ := ⟨hT⟩; clear hT HNF HNX HOK; go_wp2_with fail; refine (HD.out _).mono ?_; rintro e w3 ⟨rfl, rfl⟩; go_wp2_with fail; exact ⟨⟨k + 1, hlt, by go_num, HT, hB⟩, by simp [RowKit.intOf]; try omega⟩
      · have hT := HNX.out (by rw [HOK.out]; rfl); have HT : Sl _ := ⟨hT⟩; clear hT HNF HNX HOK HK0; go_wp2_with fail; exact ⟨⟨k + 1, hlt, by go_num, HT, hB⟩, by simp [RowKit.intOf]; try omega⟩
    · have hke : k = s.size := (by omega); have HF : Sl (nameC s = true) := ⟨nameC_true ⟨by omega, by omega⟩ fun i hi => HV.out i hi (by omega)⟩; clear HV; go_wp2_with fail; go_ret; rw [HF.out]; exact ⟨rfl, hB⟩
theorem letC_ltrI (b : UInt8) : letC b = ltrI (b.toNat : Int) := by
  have : ∀ n : Nat, n < 256 → ((decide (65 ≤ n) && decide (n ≤ 90)) || (decide (97 ≤ n) && decide (n ≤ 122))) = ltrI (n : Int) := (by decide +kernel); exact this b.toNat b.toNat_lt
theorem okC_nmC (i : Nat) (b : UInt8) : okC i b = nmC i (b.toNat : Int) := by
  have hd : (decide (48 ≤ b.toNat) && decide (b.toNat ≤ 57)) = digI (b.toNat : Int) := by
    have : ∀ n : Nat, n < 256 → (decide (48 ≤ n) && decide (n ≤ 57)) = digI (n : Int) := (by decide +kernel); exact this b.toNat b.toNat_lt
  have h5 : decide (b.toNat = 95) = decide ((b.toNat : Int) = 95) := decide_eq_decide.2 (by omega); unfold okC nmC; rw [letC_ltrI, hd, h5]; simp
theorem nameC_nmB (s : ByteArray) : nameC s = nmB s := by
  by_cases h : ∀ i, (h : i < s.size) → okC i s[i] = true
  · rw [nm_end fun k hk => by rw [← okC_nmC]; exact h k hk]; unfold nameC; rw [← Bool.decide_and]; exact decide_eq_decide.2 ⟨fun h1 => h1.1, fun h1 => ⟨h1, h⟩⟩
  · have h2 : ∃ i, ∃ h : i < s.size, okC i s[i] = false := by
      refine Classical.byContradiction fun hn => h fun i hi => ?_
      cases hc : okC i s[i] with
      | true => rfl
      | false => exact absurd ⟨i, hi, hc⟩ hn
    obtain ⟨i, hi, hc⟩ := h2; rw [nameC_false hi hc, nm_bad hi (by rw [← okC_nmC]; exact hc)]
theorem rname_any (s : ByteArray) (w : World) (hs : s.size ≤ maxLen) : Calls Tryz.prog 116 #[.string s] w fun e w' => e = .returned (.bool (nmB s)) ∧ Below w.heap.size w w' := by
  rw [← nameC_nmB]; exact r1nam_c s w hs
def KK (k nm : ByteArray) : List UInt8 := (keyN k nm).data.toList
theorem KK_eq (k nm : ByteArray) : KK k nm = k.data.toList ++ 32 :: nm.data.toList := by
  unfold KK keyN; simp
theorem KK_inj {k a b : ByteArray} (h : KK k a = KK k b) : a = b := by
  rw [KK_eq, KK_eq] at h; have h1 := List.append_cancel_left h; injection h1 with _ h2
  exact ByteArray.ext (Array.toList_inj.1 h2)
theorem split32 {a a' b b' : List UInt8} (ha : ∀ x ∈ a, x ≠ 32) (ha' : ∀ x ∈ a', x ≠ 32) (h : a ++ 32 :: b = a' ++ 32 :: b') : a = a' ∧ b = b' := by
  induction a generalizing a' with
  | nil =>
    cases a' with
    | nil => injection h with _ h2; exact ⟨rfl, h2⟩
    | cons y a' => injection h with h1 _; exact absurd h1.symm (ha' y List.mem_cons_self)
  | cons x a ih =>
    cases a' with
    | nil => injection h with h1 _; exact absurd h1 (ha x List.mem_cons_self)
    | cons y a' =>
      injection h with h1 h2
      obtain ⟨r1, r2⟩ := ih (fun z hz => ha z (List.mem_cons_of_mem _ hz)) (fun z hz => ha' z (List.mem_cons_of_mem _ hz)) h2; exact ⟨by rw [h1, r1], r2⟩
theorem runE_fst {α : Type} {f : Keys → α → Int} {g : Keys → α → Keys} {R : Nat → Int} {I : Nat → Keys → Prop} {L : List α} (hs : ∀ i x l, L[i]? = some x → I i l → f l x = R i ∧ (R i = 0 → I (i + 1) (g l x))) :
    ∀ (n i : Nat) (l : Keys), L.length = i + n → I i l → (runE f g (L.drop i) l).1 = fstE R n i ∧ (fstE R n i = 0 → I (i + n) (runE f g (L.drop i) l).2)
  | 0, i, l, hn, hI => by
    rw [List.drop_eq_nil_of_le (by omega)]; exact ⟨rfl, fun _ => hI⟩
  | n+1, i, l, hn, hI => by
    have hi : i < L.length := (by omega); rw [List.drop_eq_getElem_cons hi, runE, fstE]; obtain ⟨h1, h2⟩ := hs i L[i] l (List.getElem?_eq_getElem hi) hI; rw [h1]
    by_cases h0 : R i = 0
    · rw [if_pos h0, if_pos h0, show i + (n + 1) = i + 1 + n by omega]; exact runE_fst hs n (i + 1) _ (by omega) (h2 h0)
    · rw [if_neg h0, if_neg h0]; exact ⟨rfl, fun h => absurd h h0⟩
def KInv {α : Type} (B : List UInt8 → Prop) (K : α → List UInt8) (L : List α) (i : Nat) (l : Keys) : Prop := ∀ key, key ∈ l ↔ B key ∨ ∃ y ∈ L.take i, key = K y
theorem KInv.step {α : Type} {B : List UInt8 → Prop} {K : α → List UInt8} {L : List α} {i : Nat} {l : Keys} {x : α} (h : KInv B K L i l) (hx : L[i]? = some x) : KInv B K L (i + 1) (K x :: l) := fun key => by
  rw [List.mem_cons, h key, List.take_add_one, hx]; constructor
  · rintro (rfl | h1 | ⟨y, hy, rfl⟩)
    · exact .inr ⟨x, by simp, rfl⟩
    · exact .inl h1
    · exact .inr ⟨y, by simp [hy], rfl⟩
  · rintro (h1 | ⟨y, hy, rfl⟩)
    · exact .inr (.inl h1)
    · rcases List.mem_append.1 hy with hy | hy
      · exact .inr (.inr ⟨y, hy, rfl⟩)
      · have : y = x := (by simpa using hy); rw [this]; exact .inl rfl
theorem KInv.mem {α : Type} {B : List UInt8 → Prop} {K : α → List UInt8} {L : List α} {i : Nat} {l : Keys} (h : KInv B K L i l) {key : List UInt8} (hB : ¬ B key) : key ∈ l ↔ ∃ y ∈ L.take i, K y = key := by
  rw [h key]; constructor
  · rintro (h1 | ⟨y, hy, e⟩)
    · exact absurd h1 hB
    · exact ⟨y, hy, e.symm⟩
  · rintro ⟨y, hy, e⟩; exact .inr ⟨y, hy, e.symm⟩
theorem KInv.next {α β : Type} {B : List UInt8 → Prop} {K : α → List UInt8} {L : List α} {l : Keys} {n : Nat} (h : KInv B K L n l) (hn : L.length ≤ n) (K2 : β → List UInt8) (M : List β) : KInv (fun key => B key ∨ ∃ y ∈ L, key = K y) K2 M 0 l := fun key => by
  rw [h key, List.take_of_length_le hn, List.take_zero]; constructor
  · exact fun h => .inl h
  · rintro (h1 | ⟨y, hy, _⟩)
    · exact h1
    · cases hy
def twB {α : Type} (p : α → Bool) (L : List α) (i : Nat) : Bool := (L.take i).any p
theorem twB_iff {α : Type} {p : α → Bool} {L : List α} {i : Nat} : twB p L i = true ↔ ∃ y ∈ L.take i, p y = true := List.any_eq_true
theorem twB_succ {α : Type} {p : α → Bool} {L : List α} {i : Nat} {x : α} (hx : L[i]? = some x) : twB p L (i + 1) = (twB p L i || p x) := by
  unfold twB; rw [List.take_add_one, hx, List.any_append]; simp
def rdvE (o : SpO) (i : Nat) : Int :=
  let x := o.ds[i]?.getD dv0
  if nmB x.nm = true then (if twB (fun y => decide (y.nm = x.nm)) o.ds i = true then 8 else if wiB x.lo 0 127 && wiB x.hi x.lo (min 127 (x.lo + 60)) then 0 else 7) else 6
def rrkE (o : SpO) (i : Nat) : Int :=
  let x := o.rs[i]?.getD rn0
  if nmB x.nm = true then (if twB (fun y => decide (y.nm = x.nm)) o.rs i = true then 8 else if wiB x.kd 1 4 && decide (vF x.fn x.fd) then (if wiB x.ct 1 97 && wiB x.lo 0 (128 - x.ct) then 0 else 7) else 2) else 6
def st0 : SpV := ⟨⟨#[]⟩, 0, 0, 0, none, 0, 0, []⟩
def cp0 : CpV := ⟨⟨#[]⟩, 0, 0, 0, 0, false⟩
def rstE (o : SpO) (i : Nat) : Int :=
  let x := o.ss[i]?.getD st0
  if nmB x.nm = false then 6 else if wiB x.dv 0 ((o.n1 : Int) - 1) = false then 4
  else if twB (fun y => decide (y.dv = x.dv) && decide (y.nm = x.nm)) o.ss i = true then 8 else if decide (vF x.fn x.fd) = false ∨ x.n = 0 then 2 else if 12 < x.n then 3 else 0
def pr0 : PrV := ⟨0, 0, 0, 0⟩
def rsaE (o : SpO) (i : Nat) : Int :=
  let x := o.ss[i]?.getD st0
  if rstE o i = 0 then fstE (fun k => prtE o.rs (o.ds[x.dv.toNat]?.getD dv0) (x.ps[k]?.getD pr0)) x.ps.length 0 else rstE o i
def rcpE (o : SpO) (i : Nat) : Int :=
  let x := o.cs[i]?.getD cp0
  if nmB x.nm = true then (if twB (fun y => decide (y.nm = x.nm)) o.cs i = true then 8 else if wiB x.fr 0 ((o.n1 : Int) - 1) && wiB x.tt 0 ((o.n1 : Int) - 1) then
    (if ((x.sh == -12) || ((x.sh == 12) || ((x.sh == 0) && (x.fr != x.tt)))) && (wiB x.on 0 2 && !(x.th && (x.on != 0))) then 0 else 2) else 4) else 6
def refE (o : SpO) : Int :=
  if 6 < o.n1 ∨ 40 < o.n2 ∨ 80 < o.n3 ∨ 24 < o.n4 then 3
  else if fstE (rdvE o) o.n1 0 = 0 then (if fstE (rrkE o) o.n2 0 = 0 then (if fstE (rsaE o) o.n3 0 = 0 then fstE (rcpE o) o.n4 0 else fstE (rsaE o) o.n3 0) else fstE (rrkE o) o.n2 0) else fstE (rdvE o) o.n1 0
theorem nmd_eq {α : Type} {B : List UInt8 → Prop} {K : α → List UInt8} {L : List α} {i : Nat} {l : Keys} (h : KInv B K L i l) {k nm : ByteArray} (hB : ¬ B (KK k nm)) {p : α → Bool} (hp : nmB nm = true → ∀ y ∈ L.take i, K y = KK k nm ↔ p y = true) :
    nmdE l k nm = (if nmB nm = true then (if twB p L i = true then 8 else 0) else 6) := by
  unfold nmdE
  by_cases hn : nmB nm = true
  · rw [if_pos hn, if_pos hn]
    have : (keyN k nm).data.toList ∈ l ↔ twB p L i = true := by
      rw [twB_iff]; refine (h.mem (key := KK k nm) hB).trans ⟨?_, ?_⟩
      · rintro ⟨y, hy, e⟩; exact ⟨y, hy, (hp hn y hy).1 e⟩
      · rintro ⟨y, hy, e⟩; exact ⟨y, hy, (hp hn y hy).2 e⟩
    by_cases hm : twB p L i = true
    · rw [if_pos hm, if_pos (this.2 hm)]
    · rw [if_neg hm, if_neg (fun hh => hm (this.1 hh))]
  · rw [if_neg hn, if_neg hn]
theorem nmd_next {α : Type} {B : List UInt8 → Prop} {K : α → List UInt8} {L : List α} {i : Nat} {l : Keys} (h : KInv B K L i l) {k nm : ByteArray} {x : α} (hx : L[i]? = some x) (hK : K x = KK k nm) (h0 : nmdE l k nm = 0) : KInv B K L (i + 1) (nmdL l k nm) := by
  unfold nmdE at h0
  have hn : nmB nm = true := by
    by_cases hn : nmB nm = true
    · exact hn
    · rw [if_neg hn] at h0; cases h0
  rw [if_pos hn] at h0; have hm : (keyN k nm).data.toList ∉ l := fun hm => by rw [if_pos hm] at h0; cases h0
  unfold nmdL; rw [if_pos ⟨hn, hm⟩]; have := h.step hx
  rwa [hK] at this
theorem dec1 {n : Nat} (h : n < 10) : Lib.decDigits n = [UInt8.ofNat (48 + n)] := by rw [Lib.decDigits, dif_pos h]
theorem dig_no32 {n : Nat} (h : n < 10) : ∀ x ∈ Lib.decDigits n, x ≠ 32 := by
  rw [dec1 h]; intro x hx; have : x = UInt8.ofNat (48 + n) := (by simpa using hx); subst this; have : ∀ n : Nat, n < 10 → UInt8.ofNat (48 + n) ≠ 32 := (by decide); exact this n h
theorem dec_inj {n m : Nat} (h : n < 10) (h' : m < 10) (e : Lib.decDigits n = Lib.decDigits m) : n = m := by
  rw [dec1 h, dec1 h'] at e; injection e with e _
  have : ∀ n : Nat, n < 10 → ∀ m : Nat, m < 10 → UInt8.ofNat (48 + n) = UInt8.ofNat (48 + m) → n = m := (by decide); exact this n h m h' e
theorem kSt_eq (d : Int) : (kSt d).data.toList = [115, 116, 111, 112, 32] ++ Lib.decDigits d.toNat := by
  unfold kSt; simp
theorem KSt_inj {d d' : Int} {a b : ByteArray} (ha : nmB a = true) (hb : nmB b = true) (hd : 0 ≤ d ∧ d < 10) (hd' : 0 ≤ d' ∧ d' < 10) (h : KK (kSt d) a = KK (kSt d') b) : d = d' ∧ a = b := by
  rw [KK_eq, KK_eq, kSt_eq, kSt_eq, List.append_assoc, List.append_assoc] at h; obtain ⟨h1, h2⟩ := split32 (dig_no32 (by omega)) (dig_no32 (by omega)) (List.append_cancel_left h); have := dec_inj (by omega) (by omega) h1; exact ⟨by omega, ByteArray.ext (Array.toList_inj.1 h2)⟩
theorem KK_ne {k k' a b : ByteArray} (h : k.data.toList.head? ≠ k'.data.toList.head?) (h1 : k.data.toList ≠ []) (h2 : k'.data.toList ≠ []) : KK k a ≠ KK k' b := fun e => by
  rw [KK_eq, KK_eq] at e; have := congrArg List.head? e; obtain ⟨x, l, hx⟩ := List.exists_cons_of_ne_nil h1; obtain ⟨y, m, hy⟩ := List.exists_cons_of_ne_nil h2; rw [hx, hy] at this h; exact h this
theorem KSt_ne {k a b : ByteArray} (d : Int) (h : k.data.toList.head? ≠ some 115) (h1 : k.data.toList ≠ []) : KK k a ≠ KK (kSt d) b :=
  KK_ne (by rw [kSt_eq]; exact h) h1 (by rw [kSt_eq]; simp)
theorem wi_iff {a b c : Int} : wiB a b c = true ↔ b ≤ a ∧ a ≤ c := by
  unfold wiB; simp
def BD0 : List UInt8 → Prop := fun _ => False
def KD (y : DvV) : List UInt8 := KK kDv y.nm
def KR (y : RnV) : List UInt8 := KK kRn y.nm
def KS (y : SpV) : List UInt8 := KK (kSt y.dv) y.nm
def KC (y : CpV) : List UInt8 := KK kCp y.nm
def BR (o : SpO) : List UInt8 → Prop := fun key => BD0 key ∨ ∃ y ∈ o.ds, key = KD y
def BS (o : SpO) : List UInt8 → Prop := fun key => BR o key ∨ ∃ y ∈ o.rs, key = KR y
def BC (o : SpO) : List UInt8 → Prop := fun key => BS o key ∨ ∃ y ∈ o.ss, key = KS y
theorem BR_rn (o : SpO) (a : ByteArray) : ¬ BR o (KK kRn a) := by
  rintro (h | ⟨y, _, h⟩)
  · exact h
  · exact KK_ne (by decide) (by decide) (by decide) h
theorem BS_st (o : SpO) (d : Int) (a : ByteArray) : ¬ BS o (KK (kSt d) a) := by
  rintro ((h | ⟨y, _, h⟩) | ⟨y, _, h⟩)
  · exact h
  · exact KSt_ne d (by decide) (by decide) h.symm
  · exact KSt_ne d (by decide) (by decide) h.symm
theorem BC_cp (o : SpO) (a : ByteArray) : ¬ BC o (KK kCp a) := by
  rintro (((h | ⟨y, _, h⟩) | ⟨y, _, h⟩) | ⟨y, _, h⟩)
  · exact h
  · exact KK_ne (by decide) (by decide) (by decide) h
  · exact KK_ne (by decide) (by decide) (by decide) h
  · exact KSt_ne y.dv (by decide) (by decide) h
theorem ds_run (o : SpO) (h1 : o.ds.length = o.n1) : (runE divE divL o.ds []).1 = fstE (rdvE o) o.n1 0 ∧ (fstE (rdvE o) o.n1 0 = 0 → KInv (BR o) KR o.rs 0 (runE divE divL o.ds []).2) := by
  have hh := runE_fst (f := divE) (g := divL) (R := rdvE o) (I := fun i l => KInv BD0 KD o.ds i l) (L := o.ds) (fun i x l hx hI => by
    have hR : rdvE o i = if nmB x.nm = true then (if twB (fun y => decide (y.nm = x.nm)) o.ds i = true then 8 else if wiB x.lo 0 127 && wiB x.hi x.lo (min 127 (x.lo + 60)) then 0 else 7) else 6 := (by unfold rdvE; rw [hx]; rfl)
    have hE : divE l x = if nmdE l kDv x.nm = 0 then (if wiB x.lo 0 127 && wiB x.hi x.lo (min 127 (x.lo + 60)) then 0 else 7) else nmdE l kDv x.nm := rfl
    have hN := nmd_eq hI (k := kDv) (nm := x.nm) (fun h => h) (p := fun y => decide (y.nm = x.nm)) (fun _ y _ => by
      rw [decide_eq_true_iff]
      exact ⟨fun h => KK_inj h, fun h => by unfold KD; rw [h]⟩)
    have hEq : divE l x = rdvE o i := by
      rw [hE, hR, hN]
      by_cases a1 : nmB x.nm = true
      · rw [if_pos a1]
        by_cases a2 : twB (fun y => decide (y.nm = x.nm)) o.ds i = true
        · rw [if_pos a2, if_pos a1, if_pos a2]; rfl
        · rw [if_neg a2, if_pos a1, if_neg a2]; rfl
      · rw [if_neg a1, if_neg a1]; rfl
    refine ⟨hEq, fun h0 => nmd_next hI hx rfl ?_⟩; rw [← hEq, hE] at h0
    by_cases a3 : nmdE l kDv x.nm = 0
    · exact a3
    · rw [if_neg a3] at h0; exact h0) o.n1 0 [] (by omega) (fun key => by simp [BD0])
  rw [List.drop_zero, Nat.zero_add] at hh; exact ⟨hh.1, fun h0 => (hh.2 h0).next (by omega) KR o.rs⟩
theorem rs_run (o : SpO) (h2 : o.rs.length = o.n2) {l : Keys} (hl : KInv (BR o) KR o.rs 0 l) : (runE rnkE rnkL o.rs l).1 = fstE (rrkE o) o.n2 0 ∧ (fstE (rrkE o) o.n2 0 = 0 → KInv (BS o) KS o.ss 0 (runE rnkE rnkL o.rs l).2) := by
  have hh := runE_fst (f := rnkE) (g := rnkL) (R := rrkE o) (I := fun i l => KInv (BR o) KR o.rs i l) (L := o.rs) (fun i x l hx hI => by
    have hR : rrkE o i = if nmB x.nm = true then (if twB (fun y => decide (y.nm = x.nm)) o.rs i = true then 8 else if wiB x.kd 1 4 && decide (vF x.fn x.fd) then (if wiB x.ct 1 97 && wiB x.lo 0 (128 - x.ct) then 0 else 7) else 2) else 6 := (by unfold rrkE; rw [hx]; rfl)
    have hE : rnkE l x = if nmdE l kRn x.nm = 0 then (if wiB x.kd 1 4 && decide (vF x.fn x.fd) then (if wiB x.ct 1 97 && wiB x.lo 0 (128 - x.ct) then 0 else 7) else 2) else nmdE l kRn x.nm := rfl
    have hN := nmd_eq hI (k := kRn) (nm := x.nm) (BR_rn o _) (p := fun y => decide (y.nm = x.nm)) (fun _ y _ => by
      rw [decide_eq_true_iff]
      exact ⟨fun h => KK_inj h, fun h => by unfold KR; rw [h]⟩)
    have hEq : rnkE l x = rrkE o i := by
      rw [hE, hR, hN]
      by_cases a1 : nmB x.nm = true
      · rw [if_pos a1]
        by_cases a2 : twB (fun y => decide (y.nm = x.nm)) o.rs i = true
        · rw [if_pos a2, if_pos a1, if_pos a2]; rfl
        · rw [if_neg a2, if_pos a1, if_neg a2]; rfl
      · rw [if_neg a1, if_neg a1]; rfl
    refine ⟨hEq, fun h0 => nmd_next hI hx rfl ?_⟩; rw [← hEq, hE] at h0
    by_cases a3 : nmdE l kRn x.nm = 0
    · exact a3
    · rw [if_neg a3] at h0; exact h0) o.n2 0 l (by omega) hl
  rw [List.drop_zero, Nat.zero_add] at hh; exact ⟨hh.1, fun h0 => (hh.2 h0).next (by omega) KS o.ss⟩
theorem parts_run (rs : List RnV) (d : DvV) (ps : List PrV) (l : Keys) : (runE (fun _ p => prtE rs d p) (fun l _ => l) ps l).1 = fstE (fun k => prtE rs d (ps[k]?.getD pr0)) ps.length 0 := by
  have hh := runE_fst (f := fun (_ : Keys) p => prtE rs d p) (g := fun l _ => l) (R := fun k => prtE rs d (ps[k]?.getD pr0)) (I := fun _ _ => True) (L := ps) (fun i x l hx _ => ⟨by rw [hx]; rfl, fun _ => trivial⟩) ps.length 0 l (by omega) trivial; rw [List.drop_zero] at hh; exact hh.1
def stV1 (o : SpO) (y : SpV) : Prop := nmB y.nm = true ∧ wiB y.dv 0 ((o.n1 : Int) - 1) = true
theorem ss_run (o : SpO) (h1 : o.n1 ≤ 6) (h3 : o.ss.length = o.n3) {l : Keys} (hl : KInv (BS o) KS o.ss 0 l) : (runE (stpsE o) (stpL o.n1) o.ss l).1 = fstE (rsaE o) o.n3 0 ∧ (fstE (rsaE o) o.n3 0 = 0 → KInv (BC o) KC o.cs 0 (runE (stpsE o) (stpL o.n1) o.ss l).2) := by
  have hh := runE_fst (f := stpsE o) (g := stpL o.n1) (R := rsaE o) (I := fun i l => KInv (BS o) KS o.ss i l ∧ ∀ y ∈ o.ss.take i, stV1 o y) (L := o.ss) (fun i x l hx hI => by
    obtain ⟨hI, hV⟩ := hI; have hR : rstE o i = if nmB x.nm = false then 6 else if wiB x.dv 0 ((o.n1 : Int) - 1) = false then 4 else if twB (fun y => decide (y.dv = x.dv) && decide (y.nm = x.nm)) o.ss i = true then 8 else if decide (vF x.fn x.fd) = false ∨ x.n = 0 then 2 else if 12 < x.n then 3 else 0 := (by unfold rstE; rw [hx]; rfl)
    have hRA : rsaE o i = if rstE o i = 0 then fstE (fun k => prtE o.rs (o.ds[x.dv.toNat]?.getD dv0) (x.ps[k]?.getD pr0)) x.ps.length 0 else rstE o i := (by unfold rsaE; rw [hx]; rfl)
    have hE : stpE o.n1 l x = if nmB x.nm = false then 6 else if wiB x.dv 0 ((o.n1 : Int) - 1) = false then 4 else if nmdE l (kSt x.dv) x.nm = 0 then (if decide (vF x.fn x.fd) = false ∨ x.n = 0 then 2 else if 12 < x.n then 3 else 0) else nmdE l (kSt x.dv) x.nm := rfl
    have hEA : stpsE o l x = if stpE o.n1 l x = 0 then (runE (fun _ p => prtE o.rs (o.ds[x.dv.toNat]?.getD dv0) p) (fun l _ => l) x.ps l).1 else stpE o.n1 l x := rfl
    have hL : stpL o.n1 l x = if nmB x.nm = false then l else if wiB x.dv 0 ((o.n1 : Int) - 1) = false then l else nmdL l (kSt x.dv) x.nm := rfl
    have hEq : stpE o.n1 l x = rstE o i := by
      rw [hE, hR]
      by_cases a0 : nmB x.nm = false
      · rw [if_pos a0, if_pos a0]
      have a0' : nmB x.nm = true := (by simpa using a0); rw [if_neg a0, if_neg a0]
      by_cases b0 : wiB x.dv 0 ((o.n1 : Int) - 1) = false
      · rw [if_pos b0, if_pos b0]
      have b0' : wiB x.dv 0 ((o.n1 : Int) - 1) = true := (by simpa using b0); rw [if_neg b0, if_neg b0]
      have hN := nmd_eq hI (k := kSt x.dv) (nm := x.nm) (BS_st o _ _) (p := fun y => decide (y.dv = x.dv) && decide (y.nm = x.nm)) (fun _ y hy => by
        rw [Bool.and_eq_true, decide_eq_true_iff, decide_eq_true_iff]; obtain ⟨v1, v2⟩ := hV y hy; have w1 := wi_iff.1 v2; have w2 := wi_iff.1 b0'
        exact ⟨fun h => KSt_inj v1 a0' (by omega) (by omega) h, fun h => by unfold KS; rw [h.1, h.2]⟩)
      rw [hN, if_pos a0']
      by_cases a2 : twB (fun y => decide (y.dv = x.dv) && decide (y.nm = x.nm)) o.ss i = true
      · rw [if_pos a2, if_pos a2]; rfl
      · rw [if_neg a2, if_neg a2]; rfl
    have hEqA : stpsE o l x = rsaE o i := (by rw [hEA, hRA, hEq, parts_run]); refine ⟨hEqA, fun h0 => ?_⟩; rw [hRA] at h0
    have h0 : stpE o.n1 l x = 0 := by
      rw [hEq]
      by_cases a3 : rstE o i = 0
      · exact a3
      · rw [if_neg a3] at h0; exact absurd h0 a3
    rw [hE] at h0
    by_cases a0 : nmB x.nm = false
    · rw [if_pos a0] at h0; cases h0
    rw [if_neg a0] at h0
    by_cases b0 : wiB x.dv 0 ((o.n1 : Int) - 1) = false
    · rw [if_pos b0] at h0; cases h0
    rw [if_neg b0] at h0
    have h00 : nmdE l (kSt x.dv) x.nm = 0 := by
      by_cases a3 : nmdE l (kSt x.dv) x.nm = 0
      · exact a3
      · rw [if_neg a3] at h0; exact absurd h0 a3
    rw [hL, if_neg a0, if_neg b0]; refine ⟨nmd_next hI hx rfl h00, fun y hy => ?_⟩; rw [List.take_add_one, hx] at hy; rcases List.mem_append.1 hy with hy | hy
    · exact hV y hy
    · have : y = x := (by simpa using hy); rw [this]
      exact ⟨by simpa using a0, by simpa using b0⟩) o.n3 0 l (by omega) ⟨hl, fun y hy => by rw [List.take_zero] at hy; cases hy⟩
  rw [List.drop_zero, Nat.zero_add] at hh; exact ⟨hh.1, fun h0 => (hh.2 h0).1.next (by omega) KC o.cs⟩
theorem cs_run (o : SpO) (h4 : o.cs.length = o.n4) {l : Keys} (hl : KInv (BC o) KC o.cs 0 l) : (runE (cplE o.n1) cplL o.cs l).1 = fstE (rcpE o) o.n4 0 := by
  have hh := runE_fst (f := cplE o.n1) (g := cplL) (R := rcpE o) (I := fun i l => KInv (BC o) KC o.cs i l) (L := o.cs) (fun i x l hx hI => by
    have hN := nmd_eq hI (k := kCp) (nm := x.nm) (BC_cp o _) (p := fun y => decide (y.nm = x.nm)) (fun _ y _ => by
      rw [decide_eq_true_iff]
      exact ⟨fun h => KK_inj h, fun h => by unfold KC; rw [h]⟩)
    obtain ⟨T, hT⟩ : ∃ T : Int, (if wiB x.fr 0 ((o.n1 : Int) - 1) && wiB x.tt 0 ((o.n1 : Int) - 1) then
      (if ((x.sh == -12) || ((x.sh == 12) || ((x.sh == 0) && (x.fr != x.tt)))) && (wiB x.on 0 2 && !(x.th && (x.on != 0))) then (0 : Int) else 2) else 4) = T := ⟨_, rfl⟩
    have hR : rcpE o i = if nmB x.nm = true then (if twB (fun y => decide (y.nm = x.nm)) o.cs i = true then 8 else T) else 6 := (by unfold rcpE; rw [hx, ← hT]; rfl)
    have hE : cplE o.n1 l x = if nmdE l kCp x.nm = 0 then T else nmdE l kCp x.nm := (by rw [← hT]; rfl)
    have hEq : cplE o.n1 l x = rcpE o i := by
      rw [hE, hR, hN]
      by_cases a1 : nmB x.nm = true
      · rw [if_pos a1]
        by_cases a2 : twB (fun y => decide (y.nm = x.nm)) o.cs i = true
        · rw [if_pos a2, if_pos a1, if_pos a2]; rfl
        · rw [if_neg a2, if_pos a1, if_neg a2]; rfl
      · rw [if_neg a1, if_neg a1]; rfl
    refine ⟨hEq, fun h0 => nmd_next hI hx rfl ?_⟩; rw [← hEq, hE] at h0
    by_cases a3 : nmdE l kCp x.nm = 0
    · exact a3
    · rw [if_neg a3] at h0; exact absurd h0 a3) o.n4 0 l (by omega) hl
  rw [List.drop_zero] at hh; exact hh.1
theorem refE_specE (o : SpO) (h1 : o.ds.length = o.n1) (h2 : o.rs.length = o.n2) (h3 : o.ss.length = o.n3) (h4 : o.cs.length = o.n4) : refE o = specE o := by
  unfold refE specE
  by_cases hb : 6 < o.n1 ∨ 40 < o.n2 ∨ 80 < o.n3 ∨ 24 < o.n4
  · rw [if_pos hb, if_pos hb]
  rw [if_neg hb, if_neg hb]; obtain ⟨a1, a2⟩ := ds_run o h1; simp only []; rw [a1]
  by_cases c1 : fstE (rdvE o) o.n1 0 = 0
  · rw [if_pos c1, if_pos c1]; obtain ⟨b1, b2⟩ := rs_run o h2 (a2 c1); rw [b1]
    by_cases c2 : fstE (rrkE o) o.n2 0 = 0
    · rw [if_pos c2, if_pos c2]; obtain ⟨d1, d2⟩ := ss_run o (by omega) h3 (b2 c2); rw [d1]
      by_cases c3 : fstE (rsaE o) o.n3 0 = 0
      · rw [if_pos c3, if_pos c3, cs_run o h4 (d2 c3)]
      · rw [if_neg c3, if_neg c3]
    · rw [if_neg c2, if_neg c2]
  · rw [if_neg c1, if_neg c1]
theorem r1common_any (a b : Nat) (w : World) (ha : a < 100000) (hb : b < 100000) (hb1 : 1 ≤ b) : Calls Tryz.prog 160 #[.int .i64 a, .int .i64 b] w fun e w' => e = .returned (.bool (!decide (Nat.gcd a b = 1))) ∧ w' = w := by
  obtain ⟨r, hr⟩ : ∃ r, (!decide (Nat.gcd a b = 1)) = r := ⟨_, rfl⟩; rw [hr]; have HR : Sl _ := ⟨hr⟩; clear hr; go_enter Tryz.func160, Tryz.ntmps160; go_wp2_with fail
  go_loop [5] (fun s5 => ∃ k : Nat, 2 ≤ k ∧ k ≤ b + 2 ∧ s5 = .int .i64 k ∧ Sl (∀ j, 2 ≤ j → j < k → ¬ (j ∣ a ∧ j ∣ b))) (fun s5 => b + 2 - (RowKit.intOf s5).toNat)
  case atStart => exact ⟨2, by decide, by omega, rfl, ⟨fun j h1 h2 => by omega⟩⟩
  case round =>
    obtain ⟨k, hk2, hkb, rfl, HK⟩ := hrel; have hk0 : ¬ (k : Int) = 0 := (by omega); have ma : (a : Int).tmod (k : Int) = ((a % k : Nat) : Int) := (by rw [Int.tmod_eq_emod_of_nonneg (by omega)]; rfl); have mb : (b : Int).tmod (k : Int) = ((b % k : Nat) : Int) := (by rw [Int.tmod_eq_emod_of_nonneg (by omega)]; rfl)
    by_cases hle : k ≤ b
    · have hl : (k : Int) ≤ (b : Int) := (by omega); have HD : Sl ((a % k = 0 ↔ k ∣ a) ∧ (b % k = 0 ↔ k ∣ b)) := ⟨⟨Nat.dvd_of_mod_eq_zero, Nat.mod_eq_zero_of_dvd⟩, ⟨Nat.dvd_of_mod_eq_zero, Nat.mod_eq_zero_of_dvd⟩⟩; obtain ⟨x, hx⟩ : ∃ x, a % k = x := ⟨_, rfl⟩; obtain ⟨y, hy⟩ : ∃ y, b % k = y := ⟨_, rfl⟩; rw [hx] at ma HD; rw [hy] at mb HD; clear hx hy
      have hnext : ¬ (x = 0 ∧ y = 0) → Sl (∀ j, 2 ≤ j → j < k + 1 → ¬ (j ∣ a ∧ j ∣ b)) := fun h => ⟨fun j h1 h2 hc => by
        rcases Nat.lt_or_ge j k with h3 | h3
        · exact HK.out j h1 h3 hc
        · rw [show j = k by omega] at hc
          exact h ⟨HD.out.1.2 hc.1, HD.out.2.2 hc.2⟩⟩
      by_cases hx0 : x = 0
      · by_cases hy0 : y = 0
        · have HV : Sl (r = true) := ⟨by
            rw [← HR.out]; have h1 : k ∣ Nat.gcd a b := Nat.dvd_gcd (HD.out.1.1 hx0) (HD.out.2.1 hy0)
            have h2 : Nat.gcd a b ≠ 1 := fun h => by
              rw [h] at h1; have := Nat.le_of_dvd (by decide) h1; omega
            rw [decide_eq_false h2]; rfl⟩
          have q1 : ((x : Int) == 0) = true := (by rw [hx0]; rfl); have q2 : ((y : Int) == 0) = true := (by rw [hy0]; rfl); clear hnext hx0 hy0; go_wp2_with fail; go_ret; exact ⟨by rw [HV.out]; rfl, rfl⟩
        · have HN := hnext (fun h => hy0 h.2); have q1 : ((x : Int) == 0) = true := (by rw [hx0]; rfl); have q2 : ((y : Int) == 0) = false := (by rw [beq_eq_false_iff_ne]; omega); clear hnext hx0 hy0; go_wp2_with fail; exact ⟨⟨k + 1, by omega, by omega, by go_num, HN⟩, by simp [RowKit.intOf]; omega⟩
      · have HN := hnext (fun h => hx0 h.1); have q1 : ((x : Int) == 0) = false := (by rw [beq_eq_false_iff_ne]; omega); clear hnext hx0; go_wp2_with fail; exact ⟨⟨k + 1, by omega, by omega, by go_num, HN⟩, by simp [RowKit.intOf]; omega⟩
    · have hl : decide ((k : Int) ≤ (b : Int)) = false := decide_eq_false (by omega)
      have HV : Sl (r = false) := ⟨by
        rw [← HR.out]
        have h2 : Nat.gcd a b = 1 := by
          have hp : 0 < Nat.gcd a b := Nat.gcd_pos_of_pos_right _ hb1; have hle2 : Nat.gcd a b ≤ b := Nat.gcd_le_right _ hb1; rcases Nat.lt_or_ge (Nat.gcd a b) 2 with h | h
          · omega
          · exact absurd ⟨Nat.gcd_dvd_left a b, Nat.gcd_dvd_right a b⟩ (HK.out _ h (by omega))
        rw [decide_eq_true h2]; rfl⟩
      clear ma mb; go_wp2_with fail; go_ret; exact ⟨by rw [HV.out]; rfl, rfl⟩
theorem rvalid_any (num den : Int) (w : World) : Calls Tryz.prog 118 #[.agg #[.int .i64 num, .int .i64 den]] w fun e w' => e = .returned (.bool (decide (vF num den))) ∧ Below w.heap.size w w' := by
  have hu : Below w.heap.size w (w.alloc (.cells #[.int .i64 num, .int .i64 den] 87)) := (Below.refl _ _).alloc (Nat.le_refl _) _; have HU : Sl _ := ⟨hu⟩; clear hu; obtain ⟨r, hr⟩ : ∃ r, decide (vF num den) = r := ⟨_, rfl⟩; rw [hr]; have HR : Sl _ := ⟨hr⟩; clear hr
  by_cases hok : (1 ≤ den ∧ den ≤ 15) ∧ (1 ≤ num ∧ num ≤ 64 * den)
  · obtain ⟨⟨h1, h2⟩, h3, h4⟩ := hok; obtain ⟨n, rfl⟩ := Int.eq_ofNat_of_zero_le (show 0 ≤ num by omega); obtain ⟨d, rfl⟩ := Int.eq_ofNat_of_zero_le (show 0 ≤ den by omega); have HG : Sl _ := ⟨fun W : World => r1common_any n d W (by omega) (by omega) (by omega)⟩
    have HV : Sl (r = decide (Nat.gcd n d = 1)) := ⟨by
      rw [← HR.out, Bool.eq_iff_iff, decide_eq_true_iff, decide_eq_true_iff]; unfold vF; simp only [Int.natAbs_natCast]
      omega⟩
    have hw : IntKind.i64.wrap (64 * (d : Int)) = 64 * (d : Int) := (by rw [IntKind.wrap_i64]; omega); have g1 : ¬ (d : Int) < 1 := (by omega); have g2 : ¬ 15 < (d : Int) := (by omega); have g3 : ¬ (n : Int) < 1 := (by omega); have g4 : ¬ 64 * (d : Int) < (n : Int) := (by omega); obtain ⟨g, hg⟩ : ∃ g, decide (Nat.gcd n d = 1) = g := ⟨_, rfl⟩; rw [hg] at HG HV; clear hg; go_enter Tryz.func118, Tryz.ntmps118; go_wp2_with fail; refine (HG.out _).mono ?_; rintro e w1 ⟨rfl, rfl⟩
    cases g <;> (go_wp2_with fail; go_ret; exact ⟨by rw [HV.out]; rfl, HU.out⟩)
  · have HV : Sl (r = false) := ⟨by
      rw [← HR.out, decide_eq_false_iff_not]; unfold vF; intro h
      exact hok ⟨h.1, h.2.1⟩⟩
    have hcase : den < 1 ∨ (¬ den < 1 ∧ 15 < den) ∨ (¬ den < 1 ∧ ¬ 15 < den ∧ num < 1) ∨ (¬ den < 1 ∧ ¬ 15 < den ∧ ¬ num < 1 ∧ 64 * den < num) := (by omega); clear hok HR; rcases hcase with h1 | ⟨h1, h2⟩ | ⟨h1, h2, h3⟩ | ⟨h1, h2, h3, h4⟩
    · have d1 : decide (1 ≤ den) = false := decide_eq_false (by omega); go_enter Tryz.func118, Tryz.ntmps118; go_wp2_with fail; go_ret; exact ⟨by rw [HV.out]; rfl, HU.out⟩
    · have d1 : decide (1 ≤ den) = true := decide_eq_true (by omega); have d2 : decide (den ≤ 15) = false := decide_eq_false (by omega); go_enter Tryz.func118, Tryz.ntmps118; go_wp2_with fail; go_ret; exact ⟨by rw [HV.out]; rfl, HU.out⟩
    · have d1 : decide (1 ≤ den) = true := decide_eq_true (by omega); have d2 : decide (den ≤ 15) = true := decide_eq_true (by omega); have d3 : decide (1 ≤ num) = false := decide_eq_false (by omega); go_enter Tryz.func118, Tryz.ntmps118; go_wp2_with fail; go_ret; exact ⟨by rw [HV.out]; rfl, HU.out⟩
    · have d1 : decide (1 ≤ den) = true := decide_eq_true (by omega); have d2 : decide (den ≤ 15) = true := decide_eq_true (by omega); have d3 : decide (1 ≤ num) = true := decide_eq_true (by omega); have hw : IntKind.i64.wrap (64 * den) = 64 * den := (by rw [IntKind.wrap_i64]; omega); have d4 : decide (num ≤ 64 * den) = false := decide_eq_false (by omega); go_enter Tryz.func118, Tryz.ntmps118; go_wp2_with fail; go_ret; exact ⟨by rw [HV.out]; rfl, HU.out⟩
theorem cbytes_eq {a b : ByteArray} (h : a.toList = b.toList) : a = b := by
  rw [Go.ByteArray.toList_eq, Go.ByteArray.toList_eq] at h; exact bytes_data h
theorem twB_mono {α : Type} {p : α → Bool} {L : List α} {k i : Nat} (h : twB p L k = true) (hk : k ≤ i) : twB p L i = true := by
  obtain ⟨y, hy, e⟩ := twB_iff.1 h; refine twB_iff.2 ⟨y, ?_, e⟩; have : L.take k = (L.take i).take k := (by rw [List.take_take, Nat.min_eq_left hk]); rw [this] at hy; exact List.mem_of_mem_take hy
theorem RowG.all_ {α : Type} {w : World} {A : Option Addr} {n sz : Nat} {f : α → List Value} {l : List α} (h : RowG w A n sz f l) (hsz : 0 < sz) (hn : 0 < n) :
    ∃ gb o, A = some ⟨gb, o, none⟩ ∧ gb < w.heap.size ∧ ∀ W, Below w.heap.size w W → ∀ k, k < n → ∃ y, l[k]? = some y ∧ W.rangeAt gb (o + k * sz) (f y) := by
  obtain ⟨gb, oo, x, hA, hgb, hx, hra⟩ := h.at_ hsz hn; refine ⟨gb, oo, hA, hgb, fun W hW k hk => ?_⟩; obtain ⟨gb2, oo2, y, hA2, _, hy, hra2⟩ := h.at_ hsz hk; rw [hA] at hA2; injection hA2 with hA2
  injection hA2 with e1 e2 _
  subst e1 e2; exact ⟨y, hy, fun j v hv => (hW.cell (p := ⟨gb, oo + k * sz + j, none⟩) hgb).trans (hra2 j v hv)⟩
theorem rnote_any (n : Int) (w : World) : Calls Tryz.prog 117 #[.int .i64 n] w fun e w' => e = .returned (.bool (decide (0 ≤ n ∧ n ≤ 127))) ∧ w' = w := by
  by_cases h : 0 ≤ n
  · have hb : decide (0 ≤ n) = true := decide_eq_true h; have HC : Sl (decide (0 ≤ n ∧ n ≤ 127) = decide (n ≤ 127)) := ⟨decide_eq_decide.2 ⟨fun h => h.2, fun h2 => ⟨h, h2⟩⟩⟩; go_enter Tryz.func117, Tryz.ntmps117; go_wp2_with fail; go_ret; exact ⟨by first | rfl | (rw [HC.out]; rfl), rfl⟩
  · have hb : decide (0 ≤ n) = false := decide_eq_false h; have HC : Sl (decide (0 ≤ n ∧ n ≤ 127) = false) := ⟨decide_eq_false fun hh => h hh.1⟩; go_enter Tryz.func117, Tryz.ntmps117; go_wp2_with fail; go_ret; exact ⟨by first | rfl | (rw [HC.out]; rfl), rfl⟩
theorem rindex_any (n m : Int) (w : World) : Calls Tryz.prog 119 #[.int .i64 n, .int .i64 m] w fun e w' => e = .returned (.bool (wiB n 0 (m - 1))) ∧ w' = w := by
  by_cases h : 0 ≤ n
  · have hb : decide (0 ≤ n) = true := decide_eq_true h; have HC : Sl (wiB n 0 (m - 1) = decide (n < m)) := ⟨by unfold wiB; rw [decide_eq_true h, Bool.true_and]; exact decide_eq_decide.2 (by omega)⟩; go_enter Tryz.func119, Tryz.ntmps119; go_wp2_with fail; go_ret; exact ⟨by first | rfl | (rw [HC.out]; rfl), rfl⟩
  · have hb : decide (0 ≤ n) = false := decide_eq_false h; have HC : Sl (wiB n 0 (m - 1) = false) := ⟨by unfold wiB; rw [decide_eq_false h, Bool.false_and]⟩; go_enter Tryz.func119, Tryz.ntmps119; go_wp2_with fail; go_ret; exact ⟨by first | rfl | (rw [HC.out]; rfl), rfl⟩
theorem rdivision_any (o : SpO) (i : Nat) (w : World) (hM : SpM w o) (hF : SpF o) (hi : i < o.n1) (hn : o.n1 ≤ 1000) :
    Calls Tryz.prog 67 #[.agg #[.slice o.A1 o.n1 o.c1, .slice o.A2 o.n2 o.c2, .slice o.A3 o.n3 o.c3, .slice o.A4 o.n4 o.c4], .int .i64 (i : Int)] w fun e w' => e = .returned (.int .i64 (rdvE o i)) ∧ Below w.heap.size w w' := by
  have HD : Sl (Lg w w []) := ⟨Lg.nil w⟩; obtain ⟨gb, oo, hA, hgb, hall⟩ := hM.d.all_ (by decide) (show 0 < o.n1 by omega); have HALL : Sl _ := ⟨hall⟩; have HLEN : Sl (o.ds.length = o.n1) := ⟨hM.d.len⟩; obtain ⟨x, hx, _⟩ := hall w (Below.refl _ _) i hi
  have HXI : Sl (∀ W, Below w.heap.size w W → W.rangeAt gb (oo + i * 3) x.cells) := ⟨fun W hW => by
    obtain ⟨x2, hx2, h2⟩ := HALL.out W hW i hi; rw [hx] at hx2; injection hx2 with hx2
    rw [hx2]
    exact h2⟩
  have hxF := hF.d x (List.mem_of_getElem? hx); obtain ⟨r, hr⟩ : ∃ r, rdvE o i = r := ⟨_, rfl⟩; have HE : Sl (r = if nmB x.nm = true then (if twB (fun y => decide (y.nm = x.nm)) o.ds i = true then 8 else if wiB x.lo 0 127 && wiB x.hi x.lo (min 127 (x.lo + 60)) then 0 else 7) else 6) := ⟨by rw [← hr]; unfold rdvE; rw [hx]; rfl⟩; rw [hr]; obtain ⟨nm, lo, hj⟩ := x; simp only [] at HE hxF; have HNM : Sl (nm.size ≤ maxLen) := ⟨hxF.1⟩; clear hxF; have HIN : Sl (i < o.n1 ∧ o.n1 ≤ 1000) := ⟨hi, hn⟩; have hi0 : (0 : Int) ≤ (i : Int) := (by omega); have hi1 : (i : Int) < (o.n1 : Int) := (by omega); have HSPM : Sl _ := ⟨hM⟩; clear hr hM hF hall hx hi hn; go_enter Tryz.func67, Tryz.ntmps67
  go_upto_region 1 with ((with_reducible show wpList _ _ _ _ _ _); (refine wpList_box_new 2 rfl rfl 33 (.tmp 0) rfl #[.slice o.A1 o.n1 o.c1, .slice o.A2 o.n2 o.c2, .slice o.A3 o.n3 o.c3, .slice o.A4 o.n4 o.c4] rfl (fun _ => by kernel_rfl) ?_; rintro w1 g0 zg zm zs zb; replace HD : Sl _ := ⟨HD.out.new zg zm zb⟩; clear zg zm zs zb))
  have c0 : w1.cell? ⟨g0, 0, none⟩ = some (.slice (some ⟨gb, oo, none⟩) o.n1 o.c1) := (by rw [← hA]; exact (HD.out.at_ 0 rfl).cell 0); have HA : Sl _ := ⟨hA⟩; clear hA
  go_upto_region 2 with ((with_reducible show wpList _ _ _ _ _ _); first
    | (refine wpList_load_mid rfl 98 (.tmp 10) rfl gb (oo + i * 3) rfl _ _ (HXI.out _ HD.out.bl) Tryz.underlying98 rfl (by kernel_rfl) ?_)
    | (refine wpList_alloc_new 5 rfl rfl 98 rfl #[.string ⟨#[]⟩, .int .i64 0, .int .i64 0] (fun _ => by kernel_rfl) ?_; rintro w2 g5 zg zm zs zb; replace HD : Sl _ := ⟨HD.out.new zg zm zb⟩; clear zg zm zs zb)
    | (refine wpList_store_whole rfl 98 (.tmp 5) (.tmp 11) rfl g5 #[.string nm, .int .i64 lo, .int .i64 hj] rfl rfl 98 _ (HD.out.at_ 0 rfl) rfl (by kernel_rfl) (by simp [Value.oneCell']) ?_; rintro w3 zm zs zb; replace HD : Sl _ := ⟨HD.out.upd zm zb⟩; clear zm zs zb))
  clear c0 hi0 hi1; have c1 : w3.cell? ⟨g5, 0, none⟩ = some (.string nm) := (HD.out.at_ 0 rfl).cell 0; go_wp2_with fail; refine (rname_any nm _ HNM.out).mono ?_; rintro e w4 ⟨rfl, hb4⟩; replace HD : Sl _ := ⟨HD.out.below hb4⟩; clear hb4 c1; obtain ⟨b0, hb0⟩ : ∃ b0, nmB nm = b0 := ⟨_, rfl⟩; rw [hb0] at HE ⊢; clear hb0
  cases b0 with
  | false =>
    go_wp2_with fail; go_ret; exact ⟨by rw [HE.out]; rfl, HD.out.bl⟩
  | true =>
    go_wp2_with fail
    go_loopw [6] (fun s6 wv => ∃ k : Nat, k ≤ i ∧ s6 = .int .i64 k ∧ Sl (Lg w wv [(g5, 98, #[.string nm, .int .i64 lo, .int .i64 hj]), (g0, 33, #[.slice o.A1 o.n1 o.c1, .slice o.A2 o.n2 o.c2, .slice o.A3 o.n3 o.c3, .slice o.A4 o.n4 o.c4])]) ∧ Sl (twB (fun y => decide (y.nm = nm)) o.ds k = false)) (fun s6 _ => i - (RowKit.intOf s6).toNat)
    case atStart => exact ⟨0, Nat.zero_le _, rfl, HD, ⟨rfl⟩⟩
    case round =>
      clear HD; obtain ⟨k, hk, rfl, HD, HTW⟩ := hrel; have hi9 : (i : Int) ≤ 1000 := (by have := HIN.out; omega)
      by_cases hki : k < i
      · have hkI : decide ((k : Int) < (i : Int)) = true := decide_eq_true (by omega); have hkI2 : (k : Int) < (i : Int) := (by omega); have hk0 : (0 : Int) ≤ (k : Int) := (by omega); have hk1 : (k : Int) < (o.n1 : Int) := (by have := HIN.out; omega); obtain ⟨y, hy, hra2⟩ := HALL.out _ HD.out.bl k (by have := HIN.out; omega); have HSU := twB_succ (p := fun y => decide (y.nm = nm)) hy; rw [HTW.out, Bool.false_or] at HSU; have HS2 : Sl _ := ⟨HSU⟩; have c0 : wr.cell? ⟨g0, 0, none⟩ = some (.slice (some ⟨gb, oo, none⟩) o.n1 o.c1) := (by rw [← HA.out]; exact (HD.out.at_ 1 rfl).cell 0); have c1 : wr.cell? ⟨g5, 0, none⟩ = some (.string nm) := (HD.out.at_ 0 rfl).cell 0; have q1 : wr.cell? ⟨gb, oo + k * 3, none⟩ = some (.string y.nm) := hra2 0 _ rfl; clear HSU hra2 hy
        by_cases heq : y.nm = nm
        · have HT : Sl (twB (fun y => decide (y.nm = nm)) o.ds i = true) := ⟨twB_mono (by rw [HS2.out]; exact decide_eq_true heq) (by omega : k + 1 ≤ i)⟩; have hq : (y.nm.toList == nm.toList) = true := (by rw [heq]; simp); clear heq; go_wp2_with fail
          go_quiet (fail)
          go_wp2_with fail; go_ret; exact ⟨by rw [HE.out, HT.out]; rfl, below_drewN HD.out.bl nq⟩
        · have HT : Sl (twB (fun y => decide (y.nm = nm)) o.ds (k + 1) = false) := ⟨by rw [HS2.out]; exact decide_eq_false heq⟩; have hq : (y.nm.toList == nm.toList) = false := (by rw [beq_eq_false_iff_ne]; exact fun h => heq (cbytes_eq h)); clear heq; go_wp2_with fail
          go_quiet (fail)
          go_wp2_with fail; exact ⟨⟨k + 1, by omega, by go_num, ⟨HD.out.below (below_drewN (Below.refl _ _) nq)⟩, HT⟩, by simp [RowKit.intOf]; omega⟩
      · obtain rfl : i = k := (by omega); have hkI : decide ((i : Int) < (i : Int)) = false := (by simp); rw [HTW.out] at HE; simp only [if_true, Bool.false_eq_true, if_false] at HE; clear HTW hki hk; have d1 : wr.cell? ⟨g5, 1, none⟩ = some (.int .i64 lo) := (HD.out.at_ 0 rfl).cell 1; have d2 : wr.cell? ⟨g5, 2, none⟩ = some (.int .i64 hj) := (HD.out.at_ 0 rfl).cell 2; go_wp2_with fail; refine (rnote_any lo _).mono ?_; rintro e w5 ⟨rfl, rfl⟩
        by_cases p1 : 0 ≤ lo ∧ lo ≤ 127
        · rw [decide_eq_true p1]; go_wp2_with fail; refine (rnote_any hj _).mono ?_; rintro e w5 ⟨rfl, rfl⟩
          by_cases p2 : 0 ≤ hj ∧ hj ≤ 127
          · rw [decide_eq_true p2]; have p10 := p1.1; have p11 := p1.2; have p20 := p2.1; have p21 := p2.2
            by_cases p3 : hj < lo
            · have p3d : decide (hj < lo) = true := decide_eq_true p3; have HV : Sl (r = 7) := ⟨by rw [HE.out, if_neg]; unfold wiB; simp; omega⟩; clear HE; go_wp2_with fail; go_ret; exact ⟨by first | (rw [HV.out]; rfl) | rw [HV.out], HD.out.bl⟩
            · have p3d : decide (hj < lo) = false := decide_eq_false p3; have hw1 : IntKind.i64.wrap (hj - lo) = hj - lo := (by rw [IntKind.wrap_i64]; omega); have hw2 : IntKind.i64.wrap (hj - lo + 1) = hj - lo + 1 := (by rw [IntKind.wrap_i64]; omega)
              by_cases p4 : 61 < hj - lo + 1
              · have p4d : decide (61 < hj - lo + 1) = true := decide_eq_true p4; have HV : Sl (r = 7) := ⟨by rw [HE.out, if_neg]; unfold wiB; simp; omega⟩; clear HE; go_wp2_with fail; go_ret; exact ⟨by first | (rw [HV.out]; rfl) | rw [HV.out], HD.out.bl⟩
              · have p4d : decide (61 < hj - lo + 1) = false := decide_eq_false p4; have HV : Sl (r = 0) := ⟨by rw [HE.out, if_pos]; unfold wiB; simp; omega⟩; clear HE; go_wp2_with fail; go_ret; exact ⟨by first | (rw [HV.out]; rfl) | rw [HV.out], HD.out.bl⟩
          · rw [decide_eq_false p2]; have HV : Sl (r = 7) := ⟨by rw [HE.out, if_neg]; unfold wiB; simp; omega⟩; clear HE; go_wp2_with fail; go_ret; exact ⟨by first | (rw [HV.out]; rfl) | rw [HV.out], HD.out.bl⟩
        · rw [decide_eq_false p1]; have HV : Sl (r = 7) := ⟨by rw [HE.out, if_neg]; unfold wiB; simp; omega⟩; clear HE; go_wp2_with fail; go_ret; exact ⟨by first | (rw [HV.out]; rfl) | rw [HV.out], HD.out.bl⟩
theorem rrank_any (o : SpO) (i : Nat) (w : World) (hM : SpM w o) (hF : SpF o) (hi : i < o.n2) (hn : o.n2 ≤ 1000) :
    Calls Tryz.prog 68 #[.agg #[.slice o.A1 o.n1 o.c1, .slice o.A2 o.n2 o.c2, .slice o.A3 o.n3 o.c3, .slice o.A4 o.n4 o.c4], .int .i64 (i : Int)] w fun e w' => e = .returned (.int .i64 (rrkE o i)) ∧ Below w.heap.size w w' := by
  have HD : Sl (Lg w w []) := ⟨Lg.nil w⟩; obtain ⟨gb, oo, hA, hgb, hall⟩ := hM.r.all_ (by decide) (show 0 < o.n2 by omega); have HALL : Sl _ := ⟨hall⟩; have HLEN : Sl (o.rs.length = o.n2) := ⟨hM.r.len⟩; obtain ⟨x, hx, _⟩ := hall w (Below.refl _ _) i hi
  have HXI : Sl (∀ W, Below w.heap.size w W → W.rangeAt gb (oo + i * 6) x.cells) := ⟨fun W hW => by
    obtain ⟨x2, hx2, h2⟩ := HALL.out W hW i hi; rw [hx] at hx2; injection hx2 with hx2
    rw [hx2]
    exact h2⟩
  have hxF := hF.r x (List.mem_of_getElem? hx); obtain ⟨r, hr⟩ : ∃ r, rrkE o i = r := ⟨_, rfl⟩; have HE : Sl (r = if nmB x.nm = true then (if twB (fun y => decide (y.nm = x.nm)) o.rs i = true then 8 else if wiB x.kd 1 4 && decide (vF x.fn x.fd) then (if wiB x.ct 1 97 && wiB x.lo 0 (128 - x.ct) then 0 else 7) else 2) else 6) := ⟨by rw [← hr]; unfold rrkE; rw [hx]; rfl⟩; rw [hr]; obtain ⟨nm, kd, fn, fd, lo, ct⟩ := x; simp only [] at HE hxF; have HNM : Sl (nm.size ≤ maxLen) := ⟨hxF.1⟩; clear hxF; have HIN : Sl (i < o.n2 ∧ o.n2 ≤ 1000) := ⟨hi, hn⟩; have hi0 : (0 : Int) ≤ (i : Int) := (by omega); have hi1 : (i : Int) < (o.n2 : Int) := (by omega); have HSPM : Sl _ := ⟨hM⟩; clear hr hM hF hall hx hi hn; go_enter Tryz.func68, Tryz.ntmps68
  go_upto_region 1 with ((with_reducible show wpList _ _ _ _ _ _); (refine wpList_box_new 2 rfl rfl 33 (.tmp 0) rfl #[.slice o.A1 o.n1 o.c1, .slice o.A2 o.n2 o.c2, .slice o.A3 o.n3 o.c3, .slice o.A4 o.n4 o.c4] rfl (fun _ => by kernel_rfl) ?_; rintro w1 g0 zg zm zs zb; replace HD : Sl _ := ⟨HD.out.new zg zm zb⟩; clear zg zm zs zb))
  have c0 : w1.cell? ⟨g0, 1, none⟩ = some (.slice (some ⟨gb, oo, none⟩) o.n2 o.c2) := (by rw [← hA]; exact (HD.out.at_ 0 rfl).cell 1); have HA : Sl _ := ⟨hA⟩; clear hA
  go_upto_region 2 with ((with_reducible show wpList _ _ _ _ _ _); first
    | (refine wpList_load_mid rfl 100 (.tmp 10) rfl gb (oo + i * 6) rfl _ _ (HXI.out _ HD.out.bl) Tryz.underlying100 rfl (by kernel_rfl) ?_)
    | (refine wpList_alloc_new 5 rfl rfl 100 rfl #[.string ⟨#[]⟩, .int .i64 0, .int .i64 0, .int .i64 0, .int .i64 0, .int .i64 0] (fun _ => by kernel_rfl) ?_; rintro w2 g5 zg zm zs zb; replace HD : Sl _ := ⟨HD.out.new zg zm zb⟩; clear zg zm zs zb)
    | (refine wpList_store_whole rfl 100 (.tmp 5) (.tmp 11) rfl g5 #[.string nm, .int .i64 kd, .int .i64 fn, .int .i64 fd, .int .i64 lo, .int .i64 ct] rfl rfl 100 _ (HD.out.at_ 0 rfl) rfl (by kernel_rfl) (by simp [Value.oneCell']) ?_; rintro w3 zm zs zb; replace HD : Sl _ := ⟨HD.out.upd zm zb⟩; clear zm zs zb))
  clear c0 hi0 hi1; have c1 : w3.cell? ⟨g5, 0, none⟩ = some (.string nm) := (HD.out.at_ 0 rfl).cell 0; go_wp2_with fail; refine (rname_any nm _ HNM.out).mono ?_; rintro e w4 ⟨rfl, hb4⟩; replace HD : Sl _ := ⟨HD.out.below hb4⟩; clear hb4 c1; obtain ⟨b0, hb0⟩ : ∃ b0, nmB nm = b0 := ⟨_, rfl⟩; rw [hb0] at HE ⊢; clear hb0
  cases b0 with
  | false =>
    go_wp2_with fail; go_ret; exact ⟨by rw [HE.out]; rfl, HD.out.bl⟩
  | true =>
    go_wp2_with fail
    go_loopw [6] (fun s6 wv => ∃ k : Nat, k ≤ i ∧ s6 = .int .i64 k ∧ Sl (Lg w wv [(g5, 100, #[.string nm, .int .i64 kd, .int .i64 fn, .int .i64 fd, .int .i64 lo, .int .i64 ct]), (g0, 33, #[.slice o.A1 o.n1 o.c1, .slice o.A2 o.n2 o.c2, .slice o.A3 o.n3 o.c3, .slice o.A4 o.n4 o.c4])]) ∧ Sl (twB (fun y => decide (y.nm = nm)) o.rs k = false)) (fun s6 _ => i - (RowKit.intOf s6).toNat)
    case atStart => exact ⟨0, Nat.zero_le _, rfl, HD, ⟨rfl⟩⟩
    case round =>
      clear HD; obtain ⟨k, hk, rfl, HD, HTW⟩ := hrel; have hi9 : (i : Int) ≤ 1000 := (by have := HIN.out; omega)
      by_cases hki : k < i
      · have hkI : decide ((k : Int) < (i : Int)) = true := decide_eq_true (by omega); have hkI2 : (k : Int) < (i : Int) := (by omega); have hk0 : (0 : Int) ≤ (k : Int) := (by omega); have hk1 : (k : Int) < (o.n2 : Int) := (by have := HIN.out; omega); obtain ⟨y, hy, hra2⟩ := HALL.out _ HD.out.bl k (by have := HIN.out; omega); have HSU := twB_succ (p := fun y => decide (y.nm = nm)) hy; rw [HTW.out, Bool.false_or] at HSU; have HS2 : Sl _ := ⟨HSU⟩; have c0 : wr.cell? ⟨g0, 1, none⟩ = some (.slice (some ⟨gb, oo, none⟩) o.n2 o.c2) := (by rw [← HA.out]; exact (HD.out.at_ 1 rfl).cell 1); have c1 : wr.cell? ⟨g5, 0, none⟩ = some (.string nm) := (HD.out.at_ 0 rfl).cell 0; have q1 : wr.cell? ⟨gb, oo + k * 6, none⟩ = some (.string y.nm) := hra2 0 _ rfl; clear HSU hra2 hy
        by_cases heq : y.nm = nm
        · have HT : Sl (twB (fun y => decide (y.nm = nm)) o.rs i = true) := ⟨twB_mono (by rw [HS2.out]; exact decide_eq_true heq) (by omega : k + 1 ≤ i)⟩; have hq : (y.nm.toList == nm.toList) = true := (by rw [heq]; simp); clear heq; go_wp2_with fail
          go_quiet (fail)
          go_wp2_with fail; go_ret; exact ⟨by rw [HE.out, HT.out]; rfl, below_drewN HD.out.bl nq⟩
        · have HT : Sl (twB (fun y => decide (y.nm = nm)) o.rs (k + 1) = false) := ⟨by rw [HS2.out]; exact decide_eq_false heq⟩; have hq : (y.nm.toList == nm.toList) = false := (by rw [beq_eq_false_iff_ne]; exact fun h => heq (cbytes_eq h)); clear heq; go_wp2_with fail
          go_quiet (fail)
          go_wp2_with fail; exact ⟨⟨k + 1, by omega, by go_num, ⟨HD.out.below (below_drewN (Below.refl _ _) nq)⟩, HT⟩, by simp [RowKit.intOf]; omega⟩
      · obtain rfl : i = k := (by omega); have hkI : decide ((i : Int) < (i : Int)) = false := (by simp); rw [HTW.out] at HE; simp only [if_true, Bool.false_eq_true, if_false] at HE; clear HTW hki hk; have d1 : wr.cell? ⟨g5, 1, none⟩ = some (.int .i64 kd) := (HD.out.at_ 0 rfl).cell 1; have d2 : wr.cell? ⟨g5, 2, none⟩ = some (.int .i64 fn) := (HD.out.at_ 0 rfl).cell 2; have d3 : wr.cell? ⟨g5, 3, none⟩ = some (.int .i64 fd) := (HD.out.at_ 0 rfl).cell 3
        by_cases p1 : kd < 1
        · have p1d : decide (kd < 1) = true := decide_eq_true p1; have p1e : decide (kd ≤ 0) = true := decide_eq_true (by omega); have HV : Sl (r = 2) := ⟨by rw [HE.out, if_neg]; unfold wiB; simp; omega⟩; clear HE; go_wp2_with fail; go_ret; exact ⟨by first | (rw [HV.out]; rfl) | rw [HV.out], HD.out.bl⟩
        · have p1d : decide (kd < 1) = false := decide_eq_false p1
          by_cases p2 : 4 < kd
          · have p2d : decide (4 < kd) = true := decide_eq_true p2; have HV : Sl (r = 2) := ⟨by rw [HE.out, if_neg]; unfold wiB; simp; omega⟩; clear HE; go_wp2_with fail; go_ret; exact ⟨by first | (rw [HV.out]; rfl) | rw [HV.out], HD.out.bl⟩
          · have p2d : decide (4 < kd) = false := decide_eq_false p2; go_wp2_with fail; refine (rvalid_any fn fd _).mono ?_; rintro e w5 ⟨rfl, hb5⟩; replace HD : Sl _ := ⟨HD.out.below hb5⟩; clear hb5 d1 d2 d3 p1d p2d; obtain ⟨b2, hb2⟩ : ∃ b2, decide (vF fn fd) = b2 := ⟨_, rfl⟩; rw [hb2] at HE ⊢; clear hb2
            cases b2 with
            | false =>
              have HV : Sl (r = 2) := ⟨by rw [HE.out, if_neg]; simp⟩; clear HE; go_wp2_with fail; go_ret; exact ⟨by first | (rw [HV.out]; rfl) | rw [HV.out], HD.out.bl⟩
            | true =>
              have HKF : Sl ((wiB kd 1 4 && true) = true) := ⟨by unfold wiB; simp; omega⟩; have d4 : w5.cell? ⟨g5, 4, none⟩ = some (.int .i64 lo) := (HD.out.at_ 0 rfl).cell 4; have d5 : w5.cell? ⟨g5, 5, none⟩ = some (.int .i64 ct) := (HD.out.at_ 0 rfl).cell 5; clear p1 p2
              by_cases p1 : ct < 1
              · have p1d : decide (ct < 1) = true := decide_eq_true p1; have p1e : decide (ct ≤ 0) = true := decide_eq_true (by omega); have HV : Sl (r = 7) := ⟨by rw [HE.out, if_pos HKF.out, if_neg]; unfold wiB; simp; omega⟩; clear HE; go_wp2_with fail; go_ret; exact ⟨by first | (rw [HV.out]; rfl) | rw [HV.out], HD.out.bl⟩
              · have p1d : decide (ct < 1) = false := decide_eq_false p1
                by_cases p2 : 97 < ct
                · have p2d : decide (97 < ct) = true := decide_eq_true p2; have HV : Sl (r = 7) := ⟨by rw [HE.out, if_pos HKF.out, if_neg]; unfold wiB; simp; omega⟩; clear HE; go_wp2_with fail; go_ret; exact ⟨by first | (rw [HV.out]; rfl) | rw [HV.out], HD.out.bl⟩
                · have p2d : decide (97 < ct) = false := decide_eq_false p2; go_wp2_with fail; refine (rnote_any lo _).mono ?_; rintro e w6 ⟨rfl, rfl⟩
                  by_cases p3 : 0 ≤ lo ∧ lo ≤ 127
                  · rw [decide_eq_true p3]; have hw1 : IntKind.i64.wrap (lo + ct) = lo + ct := (by rw [IntKind.wrap_i64]; omega); have hw2 : IntKind.i64.wrap (lo + ct - 1) = lo + ct - 1 := (by rw [IntKind.wrap_i64]; omega); go_wp2_with fail; refine (rnote_any (lo + ct - 1) _).mono ?_; rintro e w6 ⟨rfl, rfl⟩
                    by_cases p4 : 0 ≤ lo + ct - 1 ∧ lo + ct - 1 ≤ 127
                    · rw [decide_eq_true p4]; have HV : Sl (r = 0) := ⟨by rw [HE.out, if_pos HKF.out, if_pos]; unfold wiB; simp; omega⟩; clear HE; go_wp2_with fail; go_ret; exact ⟨by first | (rw [HV.out]; rfl) | rw [HV.out], HD.out.bl⟩
                    · rw [decide_eq_false p4]; have HV : Sl (r = 7) := ⟨by rw [HE.out, if_pos HKF.out, if_neg]; unfold wiB; simp; omega⟩; clear HE; go_wp2_with fail; go_ret; exact ⟨by first | (rw [HV.out]; rfl) | rw [HV.out], HD.out.bl⟩
                  · rw [decide_eq_false p3]; have HV : Sl (r = 7) := ⟨by rw [HE.out, if_pos HKF.out, if_neg]; unfold wiB; simp; omega⟩; clear HE; go_wp2_with fail; go_ret; exact ⟨by first | (rw [HV.out]; rfl) | rw [HV.out], HD.out.bl⟩
theorem rcoupler_any (o : SpO) (i : Nat) (w : World) (hM : SpM w o) (hF : SpF o) (hi : i < o.n4) (hn : o.n4 ≤ 1000) :
    Calls Tryz.prog 71 #[.agg #[.slice o.A1 o.n1 o.c1, .slice o.A2 o.n2 o.c2, .slice o.A3 o.n3 o.c3, .slice o.A4 o.n4 o.c4], .int .i64 (i : Int)] w fun e w' => e = .returned (.int .i64 (rcpE o i)) ∧ Below w.heap.size w w' := by
  have HD : Sl (Lg w w []) := ⟨Lg.nil w⟩; obtain ⟨gb, oo, hA, hgb, hall⟩ := hM.c.all_ (by decide) (show 0 < o.n4 by omega); have HALL : Sl _ := ⟨hall⟩; have HLEN : Sl (o.cs.length = o.n4) := ⟨hM.c.len⟩; obtain ⟨x, hx, _⟩ := hall w (Below.refl _ _) i hi
  have HXI : Sl (∀ W, Below w.heap.size w W → W.rangeAt gb (oo + i * 6) x.cells) := ⟨fun W hW => by
    obtain ⟨x2, hx2, h2⟩ := HALL.out W hW i hi; rw [hx] at hx2; injection hx2 with hx2
    rw [hx2]
    exact h2⟩
  have hxF := hF.c x (List.mem_of_getElem? hx); obtain ⟨r, hr⟩ : ∃ r, rcpE o i = r := ⟨_, rfl⟩; have HE : Sl (r = if nmB x.nm = true then (if twB (fun y => decide (y.nm = x.nm)) o.cs i = true then 8 else if wiB x.fr 0 ((o.n1 : Int) - 1) && wiB x.tt 0 ((o.n1 : Int) - 1) then (if ((x.sh == -12) || ((x.sh == 12) || ((x.sh == 0) && (x.fr != x.tt)))) && (wiB x.on 0 2 && !(x.th && (x.on != 0))) then 0 else 2) else 4) else 6) := ⟨by rw [← hr]; unfold rcpE; rw [hx]; rfl⟩; rw [hr]; obtain ⟨nm, fr, tt, sh, on, th⟩ := x; simp only [] at HE hxF; have HNM : Sl (nm.size ≤ maxLen) := ⟨hxF.1⟩; clear hxF; have HIN : Sl (i < o.n4 ∧ o.n4 ≤ 1000) := ⟨hi, hn⟩; have hi0 : (0 : Int) ≤ (i : Int) := (by omega); have hi1 : (i : Int) < (o.n4 : Int) := (by omega); have HSPM : Sl _ := ⟨hM⟩; clear hr hM hF hall hx hi hn; go_enter Tryz.func71, Tryz.ntmps71
  go_upto_region 1 with ((with_reducible show wpList _ _ _ _ _ _); (refine wpList_box_new 2 rfl rfl 33 (.tmp 0) rfl #[.slice o.A1 o.n1 o.c1, .slice o.A2 o.n2 o.c2, .slice o.A3 o.n3 o.c3, .slice o.A4 o.n4 o.c4] rfl (fun _ => by kernel_rfl) ?_; rintro w1 g0 zg zm zs zb; replace HD : Sl _ := ⟨HD.out.new zg zm zb⟩; clear zg zm zs zb))
  have c0 : w1.cell? ⟨g0, 3, none⟩ = some (.slice (some ⟨gb, oo, none⟩) o.n4 o.c4) := (by rw [← hA]; exact (HD.out.at_ 0 rfl).cell 3); have HA : Sl _ := ⟨hA⟩; clear hA
  go_upto_region 2 with ((with_reducible show wpList _ _ _ _ _ _); first
    | (refine wpList_load_mid rfl 93 (.tmp 10) rfl gb (oo + i * 6) rfl _ _ (HXI.out _ HD.out.bl) Tryz.underlying93 rfl (by kernel_rfl) ?_)
    | (refine wpList_alloc_new 5 rfl rfl 93 rfl #[.string ⟨#[]⟩, .int .i64 0, .int .i64 0, .int .i64 0, .int .i64 0, .bool false] (fun _ => by kernel_rfl) ?_; rintro w2 g5 zg zm zs zb; replace HD : Sl _ := ⟨HD.out.new zg zm zb⟩; clear zg zm zs zb)
    | (refine wpList_store_whole rfl 93 (.tmp 5) (.tmp 11) rfl g5 #[.string nm, .int .i64 fr, .int .i64 tt, .int .i64 sh, .int .i64 on, .bool th] rfl rfl 93 _ (HD.out.at_ 0 rfl) rfl (by kernel_rfl) (by simp [Value.oneCell']) ?_; rintro w3 zm zs zb; replace HD : Sl _ := ⟨HD.out.upd zm zb⟩; clear zm zs zb))
  clear c0 hi0 hi1; have c1 : w3.cell? ⟨g5, 0, none⟩ = some (.string nm) := (HD.out.at_ 0 rfl).cell 0; go_wp2_with fail; refine (rname_any nm _ HNM.out).mono ?_; rintro e w4 ⟨rfl, hb4⟩; replace HD : Sl _ := ⟨HD.out.below hb4⟩; clear hb4 c1; obtain ⟨b0, hb0⟩ : ∃ b0, nmB nm = b0 := ⟨_, rfl⟩; rw [hb0] at HE ⊢; clear hb0
  cases b0 with
  | false =>
    go_wp2_with fail; go_ret; exact ⟨by rw [HE.out]; rfl, HD.out.bl⟩
  | true =>
    go_wp2_with fail
    go_loopw [6] (fun s6 wv => ∃ k : Nat, k ≤ i ∧ s6 = .int .i64 k ∧ Sl (Lg w wv [(g5, 93, #[.string nm, .int .i64 fr, .int .i64 tt, .int .i64 sh, .int .i64 on, .bool th]), (g0, 33, #[.slice o.A1 o.n1 o.c1, .slice o.A2 o.n2 o.c2, .slice o.A3 o.n3 o.c3, .slice o.A4 o.n4 o.c4])]) ∧ Sl (twB (fun y => decide (y.nm = nm)) o.cs k = false)) (fun s6 _ => i - (RowKit.intOf s6).toNat)
    case atStart => exact ⟨0, Nat.zero_le _, rfl, HD, ⟨rfl⟩⟩
    case round =>
      clear HD; obtain ⟨k, hk, rfl, HD, HTW⟩ := hrel; have hi9 : (i : Int) ≤ 1000 := (by have := HIN.out; omega)
      by_cases hki : k < i
      · have hkI : decide ((k : Int) < (i : Int)) = true := decide_eq_true (by omega); have hkI2 : (k : Int) < (i : Int) := (by omega); have hk0 : (0 : Int) ≤ (k : Int) := (by omega); have hk1 : (k : Int) < (o.n4 : Int) := (by have := HIN.out; omega); obtain ⟨y, hy, hra2⟩ := HALL.out _ HD.out.bl k (by have := HIN.out; omega); have HSU := twB_succ (p := fun y => decide (y.nm = nm)) hy; rw [HTW.out, Bool.false_or] at HSU; have HS2 : Sl _ := ⟨HSU⟩; have c0 : wr.cell? ⟨g0, 3, none⟩ = some (.slice (some ⟨gb, oo, none⟩) o.n4 o.c4) := (by rw [← HA.out]; exact (HD.out.at_ 1 rfl).cell 3); have c1 : wr.cell? ⟨g5, 0, none⟩ = some (.string nm) := (HD.out.at_ 0 rfl).cell 0; have q1 : wr.cell? ⟨gb, oo + k * 6, none⟩ = some (.string y.nm) := hra2 0 _ rfl; clear HSU hra2 hy
        by_cases heq : y.nm = nm
        · have HT : Sl (twB (fun y => decide (y.nm = nm)) o.cs i = true) := ⟨twB_mono (by rw [HS2.out]; exact decide_eq_true heq) (by omega : k + 1 ≤ i)⟩; have hq : (y.nm.toList == nm.toList) = true := (by rw [heq]; simp); clear heq; go_wp2_with fail
          go_quiet (fail)
          go_wp2_with fail; go_ret; exact ⟨by rw [HE.out, HT.out]; rfl, below_drewN HD.out.bl nq⟩
        · have HT : Sl (twB (fun y => decide (y.nm = nm)) o.cs (k + 1) = false) := ⟨by rw [HS2.out]; exact decide_eq_false heq⟩; have hq : (y.nm.toList == nm.toList) = false := (by rw [beq_eq_false_iff_ne]; exact fun h => heq (cbytes_eq h)); clear heq; go_wp2_with fail
          go_quiet (fail)
          go_wp2_with fail; exact ⟨⟨k + 1, by omega, by go_num, ⟨HD.out.below (below_drewN (Below.refl _ _) nq)⟩, HT⟩, by simp [RowKit.intOf]; omega⟩
      · obtain rfl : i = k := (by omega); have hkI : decide ((i : Int) < (i : Int)) = false := (by simp); rw [HTW.out] at HE; simp only [if_true, Bool.false_eq_true, if_false] at HE; clear HTW hki hk; have d1 : wr.cell? ⟨g5, 1, none⟩ = some (.int .i64 fr) := (HD.out.at_ 0 rfl).cell 1; have d2 : wr.cell? ⟨g5, 2, none⟩ = some (.int .i64 tt) := (HD.out.at_ 0 rfl).cell 2; have e1 : wr.cell? ⟨g0, 0, none⟩ = some (.slice o.A1 o.n1 o.c1) := (HD.out.at_ 1 rfl).cell 0; go_wp2_with fail; refine (rindex_any fr (o.n1 : Int) _).mono ?_; rintro e w5 ⟨rfl, rfl⟩; obtain ⟨b1, hb1⟩ : ∃ b1, wiB fr 0 ((o.n1 : Int) - 1) = b1 := ⟨_, rfl⟩; rw [hb1] at HE ⊢; clear hb1
        cases b1 with
        | false =>
          have HV : Sl (r = 4) := ⟨by rw [HE.out, if_neg]; simp⟩; clear HE; go_wp2_with fail; go_ret; exact ⟨by first | (rw [HV.out]; rfl) | rw [HV.out], HD.out.bl⟩
        | true =>
          go_wp2_with fail; refine (rindex_any tt (o.n1 : Int) _).mono ?_; rintro e w6 ⟨rfl, rfl⟩; obtain ⟨b2, hb2⟩ : ∃ b2, wiB tt 0 ((o.n1 : Int) - 1) = b2 := ⟨_, rfl⟩; rw [hb2] at HE ⊢; clear hb2
          cases b2 with
          | false =>
            have HV : Sl (r = 4) := ⟨by rw [HE.out, if_neg]; simp⟩; clear HE; go_wp2_with fail; go_ret; exact ⟨by first | (rw [HV.out]; rfl) | rw [HV.out], HD.out.bl⟩
          | true =>
            rw [Bool.true_and, if_pos rfl] at HE; have d3 : w6.cell? ⟨g5, 3, none⟩ = some (.int .i64 sh) := (HD.out.at_ 0 rfl).cell 3; have d4 : w6.cell? ⟨g5, 4, none⟩ = some (.int .i64 on) := (HD.out.at_ 0 rfl).cell 4; have d5 : w6.cell? ⟨g5, 5, none⟩ = some (.bool th) := (HD.out.at_ 0 rfl).cell 5
            by_cases m1 : sh = -12
            · subst m1
              by_cases q1 : on < 0
              · have q1d : decide (on < 0) = true := decide_eq_true q1; have HV : Sl (r = 2) := ⟨by rw [HE.out, if_neg]; unfold wiB; simp; omega⟩; clear HE; go_wp2_with fail; go_ret; exact ⟨by first | (rw [HV.out]; rfl) | rw [HV.out], HD.out.bl⟩
              · have q1d : decide (on < 0) = false := decide_eq_false q1
                by_cases q2 : 2 < on
                · have q2d : decide (2 < on) = true := decide_eq_true q2; have HV : Sl (r = 2) := ⟨by rw [HE.out, if_neg]; unfold wiB; simp; omega⟩; clear HE; go_wp2_with fail; go_ret; exact ⟨by first | (rw [HV.out]; rfl) | rw [HV.out], HD.out.bl⟩
                · have q2d : decide (2 < on) = false := decide_eq_false q2
                  cases th with
                  | true =>
                    by_cases q3 : on = 0
                    · subst q3
                      by_cases q4 : fr = tt
                      · have q4b : (fr == tt) = true := (by simpa using q4); have HV : Sl (r = 0) := ⟨by rw [HE.out, if_pos]; unfold wiB; simp; try omega⟩; clear HE; go_wp2_with fail; go_ret; exact ⟨by first | (rw [HV.out]; rfl) | rw [HV.out], HD.out.bl⟩
                      · have q4b : (fr == tt) = false := (by simpa using q4); have HV : Sl (r = 0) := ⟨by rw [HE.out, if_pos]; unfold wiB; simp; try omega⟩; clear HE; go_wp2_with fail; go_ret; exact ⟨by first | (rw [HV.out]; rfl) | rw [HV.out], HD.out.bl⟩
                    · have q3n : (on != 0) = true := (by simpa using q3); have q3b : (on == 0) = false := (by simpa using q3); have HV : Sl (r = 2) := ⟨by rw [HE.out, if_neg]; rw [q3n]; simp⟩; clear HE; go_wp2_with fail; go_ret; exact ⟨by first | (rw [HV.out]; rfl) | rw [HV.out], HD.out.bl⟩
                  | false =>
                    by_cases q4 : fr = tt
                    · have q4b : (fr == tt) = true := (by simpa using q4); have HV : Sl (r = 0) := ⟨by rw [HE.out, if_pos]; unfold wiB; simp; try omega⟩; clear HE; go_wp2_with fail; go_ret; exact ⟨by first | (rw [HV.out]; rfl) | rw [HV.out], HD.out.bl⟩
                    · have q4b : (fr == tt) = false := (by simpa using q4); have HV : Sl (r = 0) := ⟨by rw [HE.out, if_pos]; unfold wiB; simp; try omega⟩; clear HE; go_wp2_with fail; go_ret; exact ⟨by first | (rw [HV.out]; rfl) | rw [HV.out], HD.out.bl⟩
            · by_cases m2 : sh = 12
              · subst m2
                by_cases q1 : on < 0
                · have q1d : decide (on < 0) = true := decide_eq_true q1; have HV : Sl (r = 2) := ⟨by rw [HE.out, if_neg]; unfold wiB; simp; omega⟩; clear HE; go_wp2_with fail; go_ret; exact ⟨by first | (rw [HV.out]; rfl) | rw [HV.out], HD.out.bl⟩
                · have q1d : decide (on < 0) = false := decide_eq_false q1
                  by_cases q2 : 2 < on
                  · have q2d : decide (2 < on) = true := decide_eq_true q2; have HV : Sl (r = 2) := ⟨by rw [HE.out, if_neg]; unfold wiB; simp; omega⟩; clear HE; go_wp2_with fail; go_ret; exact ⟨by first | (rw [HV.out]; rfl) | rw [HV.out], HD.out.bl⟩
                  · have q2d : decide (2 < on) = false := decide_eq_false q2
                    cases th with
                    | true =>
                      by_cases q3 : on = 0
                      · subst q3
                        by_cases q4 : fr = tt
                        · have q4b : (fr == tt) = true := (by simpa using q4); have HV : Sl (r = 0) := ⟨by rw [HE.out, if_pos]; unfold wiB; simp; try omega⟩; clear HE; go_wp2_with fail; go_ret; exact ⟨by first | (rw [HV.out]; rfl) | rw [HV.out], HD.out.bl⟩
                        · have q4b : (fr == tt) = false := (by simpa using q4); have HV : Sl (r = 0) := ⟨by rw [HE.out, if_pos]; unfold wiB; simp; try omega⟩; clear HE; go_wp2_with fail; go_ret; exact ⟨by first | (rw [HV.out]; rfl) | rw [HV.out], HD.out.bl⟩
                      · have q3n : (on != 0) = true := (by simpa using q3); have q3b : (on == 0) = false := (by simpa using q3); have HV : Sl (r = 2) := ⟨by rw [HE.out, if_neg]; rw [q3n]; simp⟩; clear HE; go_wp2_with fail; go_ret; exact ⟨by first | (rw [HV.out]; rfl) | rw [HV.out], HD.out.bl⟩
                    | false =>
                      by_cases q4 : fr = tt
                      · have q4b : (fr == tt) = true := (by simpa using q4); have HV : Sl (r = 0) := ⟨by rw [HE.out, if_pos]; unfold wiB; simp; try omega⟩; clear HE; go_wp2_with fail; go_ret; exact ⟨by first | (rw [HV.out]; rfl) | rw [HV.out], HD.out.bl⟩
                      · have q4b : (fr == tt) = false := (by simpa using q4); have HV : Sl (r = 0) := ⟨by rw [HE.out, if_pos]; unfold wiB; simp; try omega⟩; clear HE; go_wp2_with fail; go_ret; exact ⟨by first | (rw [HV.out]; rfl) | rw [HV.out], HD.out.bl⟩
              · by_cases m3 : sh = 0
                · subst m3
                  by_cases q1 : on < 0
                  · have q1d : decide (on < 0) = true := decide_eq_true q1; have HV : Sl (r = 2) := ⟨by rw [HE.out, if_neg]; unfold wiB; simp; omega⟩; clear HE; go_wp2_with fail; go_ret; exact ⟨by first | (rw [HV.out]; rfl) | rw [HV.out], HD.out.bl⟩
                  · have q1d : decide (on < 0) = false := decide_eq_false q1
                    by_cases q2 : 2 < on
                    · have q2d : decide (2 < on) = true := decide_eq_true q2; have HV : Sl (r = 2) := ⟨by rw [HE.out, if_neg]; unfold wiB; simp; omega⟩; clear HE; go_wp2_with fail; go_ret; exact ⟨by first | (rw [HV.out]; rfl) | rw [HV.out], HD.out.bl⟩
                    · have q2d : decide (2 < on) = false := decide_eq_false q2
                      cases th with
                      | true =>
                        by_cases q3 : on = 0
                        · subst q3
                          by_cases q4 : fr = tt
                          · have q4b : (fr == tt) = true := (by simpa using q4); have q4n : (fr != tt) = false := (by simpa using q4); have HV : Sl (r = 2) := ⟨by rw [HE.out, if_neg]; rw [q4n]; simp⟩; clear HE; go_wp2_with fail; go_ret; exact ⟨by first | (rw [HV.out]; rfl) | rw [HV.out], HD.out.bl⟩
                          · have q4b : (fr == tt) = false := (by simpa using q4); have q4n : (fr != tt) = true := (by simpa using q4); have HV : Sl (r = 0) := ⟨by rw [HE.out, if_pos]; rw [q4n]; unfold wiB; simp; try omega⟩; clear HE; go_wp2_with fail; go_ret; exact ⟨by first | (rw [HV.out]; rfl) | rw [HV.out], HD.out.bl⟩
                        · have q3n : (on != 0) = true := (by simpa using q3); have q3b : (on == 0) = false := (by simpa using q3); have HV : Sl (r = 2) := ⟨by rw [HE.out, if_neg]; rw [q3n]; simp⟩; clear HE; go_wp2_with fail; go_ret; exact ⟨by first | (rw [HV.out]; rfl) | rw [HV.out], HD.out.bl⟩
                      | false =>
                        by_cases q4 : fr = tt
                        · have q4b : (fr == tt) = true := (by simpa using q4); have q4n : (fr != tt) = false := (by simpa using q4); have HV : Sl (r = 2) := ⟨by rw [HE.out, if_neg]; rw [q4n]; simp⟩; clear HE; go_wp2_with fail; go_ret; exact ⟨by first | (rw [HV.out]; rfl) | rw [HV.out], HD.out.bl⟩
                        · have q4b : (fr == tt) = false := (by simpa using q4); have q4n : (fr != tt) = true := (by simpa using q4); have HV : Sl (r = 0) := ⟨by rw [HE.out, if_pos]; rw [q4n]; unfold wiB; simp; try omega⟩; clear HE; go_wp2_with fail; go_ret; exact ⟨by first | (rw [HV.out]; rfl) | rw [HV.out], HD.out.bl⟩
                · have m1n : (sh != -12) = true := (by simpa using m1); have m2n : (sh != 12) = true := (by simpa using m2); have m3n : (sh != 0) = true := (by simpa using m3); have m1b : (sh == -12) = false := (by simpa using m1); have m2b : (sh == 12) = false := (by simpa using m2); have m3b : (sh == 0) = false := (by simpa using m3); have HV : Sl (r = 2) := ⟨by rw [HE.out, if_neg]; rw [m1b, m2b, m3b]; simp⟩; clear HE; go_wp2_with fail; go_ret; exact ⟨by first | (rw [HV.out]; rfl) | rw [HV.out], HD.out.bl⟩
theorem rhas_any2 (x : RnV) (n : Int) (w : World) (hb : (0 ≤ x.lo ∧ x.lo ≤ 1000) ∧ 0 ≤ x.ct ∧ x.ct ≤ 1000) : Calls Tryz.prog 120 #[.agg #[.string x.nm, .int .i64 x.kd, .int .i64 x.fn, .int .i64 x.fd, .int .i64 x.lo, .int .i64 x.ct], .int .i64 n] w fun e w' => e = .returned (.bool (decide (x.lo ≤ n ∧ n < x.lo + x.ct))) ∧ Below w.heap.size w w' := by
  obtain ⟨nm, kd, fn, fd, lo, ct⟩ := x; simp only [] at hb ⊢; have hbl := (Below.refl w.heap.size w).alloc (Nat.le_refl _) (.cells #[.string nm, .int .i64 kd, .int .i64 fn, .int .i64 fd, .int .i64 lo, .int .i64 ct] 100); have X0 := Blk.new w 100 #[.string nm, .int .i64 kd, .int .i64 fn, .int .i64 fd, .int .i64 lo, .int .i64 ct]; have d3 : (w.alloc (.cells #[.string nm, .int .i64 kd, .int .i64 fn, .int .i64 fd, .int .i64 lo, .int .i64 ct] 100)).cell? ⟨w.heap.size, 4, none⟩ = some (.int .i64 lo) := X0.cell 4; have d4 : (w.alloc (.cells #[.string nm, .int .i64 kd, .int .i64 fn, .int .i64 fd, .int .i64 lo, .int .i64 ct] 100)).cell? ⟨w.heap.size, 5, none⟩ = some (.int .i64 ct) := X0.cell 5; have hw : IntKind.i64.wrap (lo + ct) = lo + ct := (by rw [IntKind.wrap_i64]; omega); have HBL : Sl _ := ⟨hbl⟩; clear hbl X0 hb
  by_cases h : lo ≤ n
  · have h1 : decide (lo ≤ n) = true := decide_eq_true h; have HC : Sl (decide (lo ≤ n ∧ n < lo + ct) = decide (n < lo + ct)) := ⟨decide_eq_decide.2 ⟨fun h => h.2, fun h2 => ⟨h, h2⟩⟩⟩; go_enter Tryz.func120, Tryz.ntmps120; go_wp2_with fail; go_ret; exact ⟨by first | rfl | (rw [HC.out]; rfl), HBL.out⟩
  · have h1 : decide (lo ≤ n) = false := decide_eq_false h; have HC : Sl (decide (lo ≤ n ∧ n < lo + ct) = false) := ⟨decide_eq_false fun hh => h hh.1⟩; go_enter Tryz.func120, Tryz.ntmps120; go_wp2_with fail; go_ret; exact ⟨by first | rfl | (rw [HC.out]; rfl), HBL.out⟩
theorem rstop_any (o : SpO) (i : Nat) (w : World) (hM : SpM w o) (hF : SpF o) (hi : i < o.n3) (hn : o.n3 ≤ 1000) (hn1 : o.n1 ≤ 1000) :
    Calls Tryz.prog 69 #[.agg #[.slice o.A1 o.n1 o.c1, .slice o.A2 o.n2 o.c2, .slice o.A3 o.n3 o.c3, .slice o.A4 o.n4 o.c4], .int .i64 (i : Int)] w fun e w' => e = .returned (.int .i64 (rstE o i)) ∧ Below w.heap.size w w' := by
  have HD : Sl (Lg w w []) := ⟨Lg.nil w⟩; obtain ⟨gb, oo, hA, hgb, hall⟩ := hM.s.all_ (by decide) (show 0 < o.n3 by omega); have HALL : Sl _ := ⟨hall⟩; obtain ⟨x, hx, _⟩ := hall w (Below.refl _ _) i hi
  have HXI : Sl (∀ W, Below w.heap.size w W → W.rangeAt gb (oo + i * 5) x.cells) := ⟨fun W hW => by
    obtain ⟨x2, hx2, h2⟩ := HALL.out W hW i hi; rw [hx] at hx2; injection hx2 with hx2
    rw [hx2]
    exact h2⟩
  have hxF := hF.s x (List.mem_of_getElem? hx); obtain ⟨r, hr⟩ : ∃ r, rstE o i = r := ⟨_, rfl⟩; have HE : Sl (r = if nmB x.nm = false then 6 else if wiB x.dv 0 ((o.n1 : Int) - 1) = false then 4 else if twB (fun y => decide (y.dv = x.dv) && decide (y.nm = x.nm)) o.ss i = true then 8 else if decide (vF x.fn x.fd) = false ∨ x.n = 0 then 2 else if 12 < x.n then 3 else 0) := ⟨by rw [← hr]; unfold rstE; rw [hx]; rfl⟩; rw [hr]; obtain ⟨nm, dv, fn, fd, A, n, c, ps⟩ := x; simp only [] at HE hxF; have HNM : Sl (nm.size ≤ maxLen) := ⟨hxF.1⟩; have HPN : Sl (n ≤ c ∧ c ≤ maxLen) := ⟨hxF.2.2.2.2.1⟩; clear hxF; have HIN : Sl (i < o.n3 ∧ o.n3 ≤ 1000) := ⟨hi, hn⟩; have hi0 : (0 : Int) ≤ (i : Int) := (by omega); have hi1 : (i : Int) < (o.n3 : Int) := (by omega); clear hr hM hF hall hx hi hn; go_enter Tryz.func69, Tryz.ntmps69
  go_upto_region 1 with ((with_reducible show wpList _ _ _ _ _ _); (refine wpList_box_new 2 rfl rfl 33 (.tmp 0) rfl #[.slice o.A1 o.n1 o.c1, .slice o.A2 o.n2 o.c2, .slice o.A3 o.n3 o.c3, .slice o.A4 o.n4 o.c4] rfl (fun _ => by kernel_rfl) ?_; rintro w1 g0 zg zm zs zb; replace HD : Sl _ := ⟨HD.out.new zg zm zb⟩; clear zg zm zs zb))
  have c0 : w1.cell? ⟨g0, 2, none⟩ = some (.slice (some ⟨gb, oo, none⟩) o.n3 o.c3) := (by rw [← hA]; exact (HD.out.at_ 0 rfl).cell 2); have HA : Sl _ := ⟨hA⟩; clear hA
  go_upto_region 2 with ((with_reducible show wpList _ _ _ _ _ _); first
    | (refine wpList_load_mid rfl 90 (.tmp 10) rfl gb (oo + i * 5) rfl _ _ (HXI.out _ HD.out.bl) Tryz.underlying90 rfl (by kernel_rfl) ?_)
    | (refine wpList_alloc_new 5 rfl rfl 90 rfl #[.string ⟨#[]⟩, .int .i64 0, .int .i64 0, .int .i64 0, .slice none 0 0] (fun _ => by kernel_rfl) ?_; rintro w2 g5 zg zm zs zb; replace HD : Sl _ := ⟨HD.out.new zg zm zb⟩; clear zg zm zs zb)
    | (refine wpList_store_whole rfl 90 (.tmp 5) (.tmp 11) rfl g5 #[.string nm, .int .i64 dv, .int .i64 fn, .int .i64 fd, .slice A n c] rfl rfl 90 _ (HD.out.at_ 0 rfl) rfl (by kernel_rfl) (by simp [Value.oneCell']) ?_; rintro w3 zm zs zb; replace HD : Sl _ := ⟨HD.out.upd zm zb⟩; clear zm zs zb))
  clear c0 hi0 hi1; have c1 : w3.cell? ⟨g5, 0, none⟩ = some (.string nm) := (HD.out.at_ 0 rfl).cell 0; go_wp2_with fail; refine (rname_any nm _ HNM.out).mono ?_; rintro e w4 ⟨rfl, hb4⟩; replace HD : Sl _ := ⟨HD.out.below hb4⟩; clear hb4 c1; obtain ⟨b0, hb0⟩ : ∃ b0, nmB nm = b0 := ⟨_, rfl⟩; rw [hb0] at HE ⊢; clear hb0
  cases b0 with
  | false =>
    go_wp2_with fail; go_ret; exact ⟨by rw [HE.out]; rfl, HD.out.bl⟩
  | true =>
    have c1 : w4.cell? ⟨g5, 1, none⟩ = some (.int .i64 dv) := (HD.out.at_ 0 rfl).cell 1; have c2 : w4.cell? ⟨g0, 0, none⟩ = some (.slice o.A1 o.n1 o.c1) := (HD.out.at_ 1 rfl).cell 0; go_wp2_with fail; refine (rindex_any dv (o.n1 : Int) _).mono ?_; rintro e w5 ⟨rfl, rfl⟩; obtain ⟨b1, hb1⟩ : ∃ b1, wiB dv 0 ((o.n1 : Int) - 1) = b1 := ⟨_, rfl⟩; rw [hb1] at HE ⊢; clear hb1 c1 c2
    cases b1 with
    | false =>
      go_wp2_with fail; go_ret; exact ⟨by rw [HE.out]; rfl, HD.out.bl⟩
    | true =>
      go_wp2_with fail
      go_loopw [6] (fun s6 wv => ∃ k : Nat, k ≤ i ∧ s6 = .int .i64 k ∧ Sl (Lg w wv [(g5, 90, #[.string nm, .int .i64 dv, .int .i64 fn, .int .i64 fd, .slice A n c]), (g0, 33, #[.slice o.A1 o.n1 o.c1, .slice o.A2 o.n2 o.c2, .slice o.A3 o.n3 o.c3, .slice o.A4 o.n4 o.c4])]) ∧ Sl (twB (fun y => decide (y.dv = dv) && decide (y.nm = nm)) o.ss k = false)) (fun s6 _ => i - (RowKit.intOf s6).toNat)
      case atStart => exact ⟨0, Nat.zero_le _, rfl, HD, ⟨rfl⟩⟩
      case round =>
        clear HD; obtain ⟨k, hk, rfl, HD, HTW⟩ := hrel; have hi9 : (i : Int) ≤ 1000 := (by have := HIN.out; omega)
        by_cases hki : k < i
        · have hkI : decide ((k : Int) < (i : Int)) = true := decide_eq_true (by omega); have hkI2 : (k : Int) < (i : Int) := (by omega); have hk0 : (0 : Int) ≤ (k : Int) := (by omega); have hk1 : (k : Int) < (o.n3 : Int) := (by have := HIN.out; omega); obtain ⟨y, hy, hra2⟩ := HALL.out _ HD.out.bl k (by have := HIN.out; omega); have HSU := twB_succ (p := fun y => decide (y.dv = dv) && decide (y.nm = nm)) hy; rw [HTW.out, Bool.false_or] at HSU; have HS2 : Sl _ := ⟨HSU⟩
          have HQ : Sl (∀ W, Below wr.heap.size wr W → (W.cell? ⟨g0, 2, none⟩ = some (.slice (some ⟨gb, oo, none⟩) o.n3 o.c3) ∧ W.cell? ⟨g5, 0, none⟩ = some (.string nm) ∧ W.cell? ⟨g5, 1, none⟩ = some (.int .i64 dv)) ∧ W.cell? ⟨gb, oo + k * 5, none⟩ = some (.string y.nm) ∧ W.cell? ⟨gb, oo + k * 5 + 1, none⟩ = some (.int .i64 y.dv)) := ⟨fun W hW => by
            have hW2 := HD.out.below hW; obtain ⟨y2, hy2, hra3⟩ := HALL.out W hW2.bl k (by have := HIN.out; omega); rw [hy] at hy2; injection hy2 with hy2
            subst hy2
            exact ⟨⟨by rw [← HA.out]; exact (hW2.at_ 1 rfl).cell 2, (hW2.at_ 0 rfl).cell 0, (hW2.at_ 0 rfl).cell 1⟩, hra3 0 _ rfl, hra3 1 _ rfl⟩⟩
          have hS0 : Below wr.heap.size wr wr.drew := below_drewN (Below.refl _ _) 1; clear HSU hra2 hy
          by_cases hd : y.dv = dv
          · by_cases heq : y.nm = nm
            · have HT : Sl (twB (fun y => decide (y.dv = dv) && decide (y.nm = nm)) o.ss i = true) := ⟨twB_mono (by rw [HS2.out, hd, heq]; simp) (by omega : k + 1 ≤ i)⟩; go_wp2_with fail; have hm := hS0; refine wp_region_held_drew (S := fun w' => Below wr.heap.size wr w') (by kernel_rfl) hm (fun hHeld => ?_); clear hm; refine hS 0 (v := .pointer (some ⟨g0, 2, none⟩)) rfl rfl ?_; simp only [pS]
              refine hC 1 (v := .slice (some ⟨gb, oo, none⟩) o.n3 o.c3) rfl rfl (fun w' h => by
                have hc := (HQ.out w' h).1.1
                go_simp) ?_
              simp only [pS]; refine hM 2 (v := .int .i64 (k : Int)) rfl rfl ?_; simp only [pS]; refine hS 3 (v := .pointer (some ⟨gb, oo + k * 5, none⟩)) rfl rfl ?_; simp only [pS]; refine hS 4 (v := .pointer (some ⟨gb, oo + k * 5 + 1, none⟩)) rfl rfl ?_; simp only [pS]
              refine hC 5 (v := .int .i64 y.dv) rfl rfl (fun w' h => by
                have hc := (HQ.out w' h).2.2
                go_simp) ?_
              simp only [pS]; refine hS 6 (v := .pointer (some ⟨g5, 1, none⟩)) rfl rfl ?_; simp only [pS]
              refine hC 7 (v := .int .i64 dv) rfl rfl (fun w' h => by
                have hc := (HQ.out w' h).1.2.2
                go_simp) ?_
              simp only [pS]; refine hP 8 (v := .bool true) rfl rfl (fun _ => by go_simp; (try simpa using hd)) ?_; simp only [pS]; refine hM 9 (v := .bool true) rfl rfl ?_; simp only [pS]; refine gS 10 (v := .pointer (some ⟨g0, 2, none⟩)) rfl ?_; simp only [pS]
              refine gC 11 (v := .slice (some ⟨gb, oo, none⟩) o.n3 o.c3) rfl (fun w' h => by
                have hc := (HQ.out w' h).1.1
                go_simp) ?_
              simp only [pS]; refine gM 12 (v := .int .i64 (k : Int)) rfl ?_; simp only [pS]; refine gS 13 (v := .pointer (some ⟨gb, oo + k * 5, none⟩)) rfl ?_; simp only [pS]; refine gS 14 (v := .pointer (some ⟨gb, oo + k * 5, none⟩)) rfl ?_; simp only [pS]
              refine gC 15 (v := .string y.nm) rfl (fun w' h => by
                have hc := (HQ.out w' h).2.1
                go_simp) ?_
              simp only [pS]; refine gS 16 (v := .pointer (some ⟨g5, 0, none⟩)) rfl ?_; simp only [pS]
              refine gC 17 (v := .string nm) rfl (fun w' h => by
                have hc := (HQ.out w' h).1.2.1
                go_simp) ?_
              simp only [pS]; refine gP 18 (v := .bool true) rfl (fun _ => by go_simp; (first | (simpa using heq) | exact fun h => heq (cbytes_eq h) | skip)) ?_; simp only [pS]; refine hS 19 (v := .bool true) rfl rfl ?_; simp only [pS]; refine wpAnyH_done (by kernel_rfl) ?_ _; clear hHeld; go_wp2_with fail; go_ret; exact ⟨by rw [HE.out, HT.out]; rfl, below_drewN HD.out.bl 1⟩
            · have HT : Sl (twB (fun y => decide (y.dv = dv) && decide (y.nm = nm)) o.ss (k + 1) = false) := ⟨by rw [HS2.out]; simp [heq]⟩; go_wp2_with fail; have hm := hS0; refine wp_region_held_drew (S := fun w' => Below wr.heap.size wr w') (by kernel_rfl) hm (fun hHeld => ?_); clear hm; refine hS 0 (v := .pointer (some ⟨g0, 2, none⟩)) rfl rfl ?_; simp only [pS]
              refine hC 1 (v := .slice (some ⟨gb, oo, none⟩) o.n3 o.c3) rfl rfl (fun w' h => by
                have hc := (HQ.out w' h).1.1
                go_simp) ?_
              simp only [pS]; refine hM 2 (v := .int .i64 (k : Int)) rfl rfl ?_; simp only [pS]; refine hS 3 (v := .pointer (some ⟨gb, oo + k * 5, none⟩)) rfl rfl ?_; simp only [pS]; refine hS 4 (v := .pointer (some ⟨gb, oo + k * 5 + 1, none⟩)) rfl rfl ?_; simp only [pS]
              refine hC 5 (v := .int .i64 y.dv) rfl rfl (fun w' h => by
                have hc := (HQ.out w' h).2.2
                go_simp) ?_
              simp only [pS]; refine hS 6 (v := .pointer (some ⟨g5, 1, none⟩)) rfl rfl ?_; simp only [pS]
              refine hC 7 (v := .int .i64 dv) rfl rfl (fun w' h => by
                have hc := (HQ.out w' h).1.2.2
                go_simp) ?_
              simp only [pS]; refine hP 8 (v := .bool true) rfl rfl (fun _ => by go_simp; (try simpa using hd)) ?_; simp only [pS]; refine hM 9 (v := .bool true) rfl rfl ?_; simp only [pS]; refine gS 10 (v := .pointer (some ⟨g0, 2, none⟩)) rfl ?_; simp only [pS]
              refine gC 11 (v := .slice (some ⟨gb, oo, none⟩) o.n3 o.c3) rfl (fun w' h => by
                have hc := (HQ.out w' h).1.1
                go_simp) ?_
              simp only [pS]; refine gM 12 (v := .int .i64 (k : Int)) rfl ?_; simp only [pS]; refine gS 13 (v := .pointer (some ⟨gb, oo + k * 5, none⟩)) rfl ?_; simp only [pS]; refine gS 14 (v := .pointer (some ⟨gb, oo + k * 5, none⟩)) rfl ?_; simp only [pS]
              refine gC 15 (v := .string y.nm) rfl (fun w' h => by
                have hc := (HQ.out w' h).2.1
                go_simp) ?_
              simp only [pS]; refine gS 16 (v := .pointer (some ⟨g5, 0, none⟩)) rfl ?_; simp only [pS]
              refine gC 17 (v := .string nm) rfl (fun w' h => by
                have hc := (HQ.out w' h).1.2.1
                go_simp) ?_
              simp only [pS]; refine gP 18 (v := .bool false) rfl (fun _ => by go_simp; (first | (simpa using heq) | exact fun h => heq (cbytes_eq h) | skip)) ?_; simp only [pS]; refine hS 19 (v := .bool false) rfl rfl ?_; simp only [pS]; refine wpAnyH_done (by kernel_rfl) ?_ _; clear hHeld; go_wp2_with fail; exact ⟨⟨k + 1, by omega, by go_num, ⟨HD.out.below (below_drewN (Below.refl _ _) 1)⟩, HT⟩, by simp [RowKit.intOf]; omega⟩
          · have HT : Sl (twB (fun y => decide (y.dv = dv) && decide (y.nm = nm)) o.ss (k + 1) = false) := ⟨by rw [HS2.out]; simp [hd]⟩; go_wp2_with fail; have hm := hS0; refine wp_region_held_drew (S := fun w' => Below wr.heap.size wr w') (by kernel_rfl) hm (fun hHeld => ?_); clear hm; refine hS 0 (v := .pointer (some ⟨g0, 2, none⟩)) rfl rfl ?_; simp only [pS]
            refine hC 1 (v := .slice (some ⟨gb, oo, none⟩) o.n3 o.c3) rfl rfl (fun w' h => by
              have hc := (HQ.out w' h).1.1
              go_simp) ?_
            simp only [pS]; refine hM 2 (v := .int .i64 (k : Int)) rfl rfl ?_; simp only [pS]; refine hS 3 (v := .pointer (some ⟨gb, oo + k * 5, none⟩)) rfl rfl ?_; simp only [pS]; refine hS 4 (v := .pointer (some ⟨gb, oo + k * 5 + 1, none⟩)) rfl rfl ?_; simp only [pS]
            refine hC 5 (v := .int .i64 y.dv) rfl rfl (fun w' h => by
              have hc := (HQ.out w' h).2.2
              go_simp) ?_
            simp only [pS]; refine hS 6 (v := .pointer (some ⟨g5, 1, none⟩)) rfl rfl ?_; simp only [pS]
            refine hC 7 (v := .int .i64 dv) rfl rfl (fun w' h => by
              have hc := (HQ.out w' h).1.2.2
              go_simp) ?_
            simp only [pS]; refine hP 8 (v := .bool false) rfl rfl (fun _ => by go_simp; (try simpa using hd)) ?_; simp only [pS]; refine hM 9 (v := .bool false) rfl rfl ?_; simp only [pS]; refine gN 10 rfl ?_; simp only [pS]; refine gN 11 rfl ?_; simp only [pS]; refine gN 12 rfl ?_; simp only [pS]; refine gN 13 rfl ?_; simp only [pS]; refine gN 14 rfl ?_; simp only [pS]; refine gN 15 rfl ?_; simp only [pS]; refine gN 16 rfl ?_; simp only [pS]; refine gN 17 rfl ?_; simp only [pS]; refine gN 18 rfl ?_; simp only [pS]; refine hS 19 (v := .bool false) rfl rfl ?_; simp only [pS]; refine wpAnyH_done (by kernel_rfl) ?_ _; clear hHeld; go_wp2_with fail; exact ⟨⟨k + 1, by omega, by go_num, ⟨HD.out.below (below_drewN (Below.refl _ _) 1)⟩, HT⟩, by simp [RowKit.intOf]; omega⟩
        · obtain rfl : i = k := (by omega); have hkI : decide ((i : Int) < (i : Int)) = false := (by simp); rw [HTW.out, if_neg (by decide), if_neg (by decide), if_neg (by decide)] at HE; clear HTW hki hk; have d2 : wr.cell? ⟨g5, 2, none⟩ = some (.int .i64 fn) := (HD.out.at_ 0 rfl).cell 2; have d3 : wr.cell? ⟨g5, 3, none⟩ = some (.int .i64 fd) := (HD.out.at_ 0 rfl).cell 3; go_wp2_with fail; refine (rvalid_any fn fd _).mono ?_; rintro e w6 ⟨rfl, hb6⟩; replace HD : Sl _ := ⟨HD.out.below hb6⟩; clear hb6 d2 d3; obtain ⟨b2, hb2⟩ : ∃ b2, decide (vF fn fd) = b2 := ⟨_, rfl⟩; rw [hb2] at HE ⊢; clear hb2
          cases b2 with
          | false =>
            have HV : Sl (r = 2) := ⟨by rw [HE.out, if_pos (.inl rfl)]⟩; clear HE; go_wp2_with fail; go_ret; exact ⟨by first | (rw [HV.out]; rfl) | rw [HV.out], HD.out.bl⟩
          | true =>
            have d4 : w6.cell? ⟨g5, 4, none⟩ = some (.slice A n c) := (HD.out.at_ 0 rfl).cell 4
            by_cases n0 : n = 0
            · subst n0; have HV : Sl (r = 2) := ⟨by rw [HE.out, if_pos (.inr rfl)]⟩; clear HE; go_wp2_with fail; go_ret; exact ⟨by first | (rw [HV.out]; rfl) | rw [HV.out], HD.out.bl⟩
            · have n0b : ((n : Int) == 0) = false := (by rw [beq_eq_false_iff_ne]; omega)
              by_cases n12 : 12 < n
              · have n12d : decide ((12 : Int) < (n : Int)) = true := decide_eq_true (by omega); have HV : Sl (r = 3) := ⟨by rw [HE.out, if_neg (by simp; omega), if_pos n12]⟩; clear HE; go_wp2_with fail; go_ret; exact ⟨by first | (rw [HV.out]; rfl) | rw [HV.out], HD.out.bl⟩
              · have n12d : decide ((12 : Int) < (n : Int)) = false := decide_eq_false (by omega); have HV : Sl (r = 0) := ⟨by rw [HE.out, if_neg (by simp; omega), if_neg n12]⟩; clear HE; go_wp2_with fail; go_ret; exact ⟨by first | (rw [HV.out]; rfl) | rw [HV.out], HD.out.bl⟩
theorem rpart_any (o : SpO) (s0 : ByteArray) (dv : Nat) (s2 s3 : Int) (s4 : Option Addr) (s5 s6 : Nat) (p : PrV) (w : World) (hM : SpM w o) (hdv : dv < o.n1) (hn1 : o.n1 ≤ 1000) (hn2 : o.n2 ≤ 1000)
    (hrb : ∀ r ∈ o.rs, (0 ≤ r.lo ∧ r.lo ≤ 1000) ∧ 0 ≤ r.ct ∧ r.ct ≤ 1000) (hdb : ∀ d ∈ o.ds, 0 ≤ d.lo ∧ d.hi ≤ 1000) (hp : i64 p.rk) :
    Calls Tryz.prog 70 #[.agg #[.slice o.A1 o.n1 o.c1, .slice o.A2 o.n2 o.c2, .slice o.A3 o.n3 o.c3, .slice o.A4 o.n4 o.c4], .agg #[.string s0, .int .i64 (dv : Int), .int .i64 s2, .int .i64 s3, .slice s4 s5 s6], .agg #[.int .i64 p.rk, .int .i64 p.sh, .int .i64 p.lo, .int .i64 p.hi]] w fun e w' => e = .returned (.int .i64 (prtE o.rs (o.ds[dv]?.getD dv0) p)) ∧ Below w.heap.size w w' := by
  have HD : Sl (Lg w w []) := ⟨Lg.nil w⟩; obtain ⟨gb, oo, hA, hgb, hall⟩ := hM.d.all_ (by decide) (show 0 < o.n1 by omega); have HALL : Sl _ := ⟨hall⟩; obtain ⟨d, hd, _⟩ := hall w (Below.refl _ _) dv hdv
  have HXI : Sl (∀ W, Below w.heap.size w W → W.rangeAt gb (oo + dv * 3) d.cells) := ⟨fun W hW => by
    obtain ⟨x2, hx2, h2⟩ := HALL.out W hW dv hdv; rw [hd] at hx2; injection hx2 with hx2
    rw [hx2]
    exact h2⟩
  have hdF := hdb d (List.mem_of_getElem? hd); rw [hd, Option.getD_some]; have HRL : Sl (o.rs.length = o.n2) := ⟨hM.r.len⟩; have HRM : Sl _ := ⟨hM.r⟩; have HRB : Sl _ := ⟨hrb⟩; obtain ⟨r, hr⟩ : ∃ r, prtE o.rs d p = r := ⟨_, rfl⟩
  have HE : Sl (r = if wiB p.rk 0 ((o.rs.length : Int) - 1) = false then 4 else if wiB p.lo d.lo d.hi && (wiB p.hi p.lo d.hi && wiB p.sh (-96) 96) then
    (if p.lo + p.sh < (o.rs[p.rk.toNat]?.getD rn0).lo ∨ (o.rs[p.rk.toNat]?.getD rn0).lo + (o.rs[p.rk.toNat]?.getD rn0).ct ≤ p.hi + p.sh then 4 else 0) else 7) := ⟨by rw [← hr]; rfl⟩
  rw [hr]; rw [HRL.out] at HE; obtain ⟨dn, lo, hj⟩ := d; obtain ⟨rk, sh, plo, phi⟩ := p; simp only [] at HE hdF ⊢; have hdv0 : (0 : Int) ≤ (dv : Int) := (by omega); have hdv1 : (dv : Int) < (o.n1 : Int) := (by omega); have HN2 : Sl (o.n2 ≤ 1000) := ⟨hn2⟩; clear hr hM hall hd hrb hdb hp; go_enter Tryz.func70, Tryz.ntmps70
  go_upto_region 1 with ((with_reducible show wpList _ _ _ _ _ _); first
    | (refine wpList_box_new 3 rfl rfl 33 (.tmp 0) rfl #[.slice o.A1 o.n1 o.c1, .slice o.A2 o.n2 o.c2, .slice o.A3 o.n3 o.c3, .slice o.A4 o.n4 o.c4] rfl (fun _ => by kernel_rfl) ?_; rintro w1 g0 zg zm zs zb; replace HD : Sl _ := ⟨HD.out.new zg zm zb⟩; clear zg zm zs zb)
    | (refine wpList_box_new 4 rfl rfl 90 (.tmp 1) rfl #[.string s0, .int .i64 (dv : Int), .int .i64 s2, .int .i64 s3, .slice s4 s5 s6] rfl (fun _ => by kernel_rfl) ?_; rintro w2 g1 zg zm zs zb; replace HD : Sl _ := ⟨HD.out.new zg zm zb⟩; clear zg zm zs zb)
    | (refine wpList_box_new 5 rfl rfl 102 (.tmp 2) rfl #[.int .i64 rk, .int .i64 sh, .int .i64 plo, .int .i64 phi] rfl (fun _ => by kernel_rfl) ?_; rintro w3 g2 zg zm zs zb; replace HD : Sl _ := ⟨HD.out.new zg zm zb⟩; clear zg zm zs zb))
  have c0 : w3.cell? ⟨g2, 0, none⟩ = some (.int .i64 rk) := (HD.out.at_ 0 rfl).cell 0; have c1 : w3.cell? ⟨g0, 1, none⟩ = some (.slice o.A2 o.n2 o.c2) := (HD.out.at_ 2 rfl).cell 1; go_wp2_with fail; refine (rindex_any rk (o.n2 : Int) _).mono ?_; rintro e w5 ⟨rfl, rfl⟩; obtain ⟨b1, hb1⟩ : ∃ b1, wiB rk 0 ((o.n2 : Int) - 1) = b1 := ⟨_, rfl⟩; rw [hb1] at HE ⊢; have HB1 : Sl _ := ⟨hb1⟩; clear hb1 c0 c1
  cases b1 with
  | false =>
    go_wp2_with fail; go_ret; exact ⟨by rw [HE.out]; rfl, HD.out.bl⟩
  | true =>
    rw [if_neg (by decide)] at HE; have hrk := wi_iff.1 HB1.out; obtain ⟨rk, rfl⟩ := Int.eq_ofNat_of_zero_le hrk.1; rw [Int.toNat_natCast] at HE; have hrk0 : (0 : Int) ≤ (rk : Int) := (by omega); have hrk1 : (rk : Int) < (o.n2 : Int) := (by omega); have hrkn : rk < o.n2 := (by omega); obtain ⟨gr, orr, hAr, hgr, hallr⟩ := HRM.out.all_ (by decide) (show 0 < o.n2 by omega); obtain ⟨x, hx, _⟩ := hallr w (Below.refl _ _) rk hrkn; have hxb := HRB.out x (List.mem_of_getElem? hx)
    have HXR : Sl (∀ W, Below w.heap.size w W → W.rangeAt gr (orr + rk * 6) x.cells) := ⟨fun W hW => by
      obtain ⟨x2, hx2, h2⟩ := hallr W hW rk hrkn; rw [hx] at hx2; injection hx2 with hx2
      rw [hx2]
      exact h2⟩
    rw [hx, Option.getD_some] at HE; have HXB : Sl _ := ⟨hxb⟩; have HAR : Sl _ := ⟨hAr⟩; have HDF : Sl _ := ⟨hdF⟩; have HRK : Sl (rk < o.n2) := ⟨hrkn⟩; clear hx hallr hrk hrkn hgr hxb hAr hdF HB1; have c0 : w5.cell? ⟨g0, 0, none⟩ = some (.slice (some ⟨gb, oo, none⟩) o.n1 o.c1) := (by rw [← hA]; exact (HD.out.at_ 2 rfl).cell 0); have c1 : w5.cell? ⟨g1, 1, none⟩ = some (.int .i64 (dv : Int)) := (HD.out.at_ 1 rfl).cell 1; have HA : Sl _ := ⟨hA⟩; clear hA
    go_upto_region 4 with ((with_reducible show wpList _ _ _ _ _ _); first
      | (refine wpList_load_mid rfl 98 (.tmp 20) rfl gb (oo + dv * 3) rfl _ _ (HXI.out _ HD.out.bl) Tryz.underlying98 rfl (by kernel_rfl) ?_)
      | (refine wpList_alloc_new 7 rfl rfl 98 rfl #[.string ⟨#[]⟩, .int .i64 0, .int .i64 0] (fun _ => by kernel_rfl) ?_; rintro w7 g7 zg zm zs zb; replace HD : Sl _ := ⟨HD.out.new zg zm zb⟩; clear zg zm zs zb)
      | (refine wpList_store_whole rfl 98 (.tmp 7) (.tmp 21) rfl g7 #[.string dn, .int .i64 lo, .int .i64 hj] rfl rfl 98 _ (HD.out.at_ 0 rfl) rfl (by kernel_rfl) (by simp [Value.oneCell']) ?_; rintro w8 zm zs zb; replace HD : Sl _ := ⟨HD.out.upd zm zb⟩; clear zm zs zb))
    clear c0 c1; have c2 : w8.cell? ⟨g2, 2, none⟩ = some (.int .i64 plo) := (HD.out.at_ 1 rfl).cell 2; have c3 : w8.cell? ⟨g2, 3, none⟩ = some (.int .i64 phi) := (HD.out.at_ 1 rfl).cell 3; have c4 : w8.cell? ⟨g2, 1, none⟩ = some (.int .i64 sh) := (HD.out.at_ 1 rfl).cell 1; have c5 : w8.cell? ⟨g7, 1, none⟩ = some (.int .i64 lo) := (HD.out.at_ 0 rfl).cell 1; have c6 : w8.cell? ⟨g7, 2, none⟩ = some (.int .i64 hj) := (HD.out.at_ 0 rfl).cell 2
    by_cases p0 : plo < lo
    · have p0d : decide (plo < lo) = true := decide_eq_true p0; have HV : Sl (r = 7) := ⟨by rw [HE.out, if_neg]; unfold wiB; simp; omega⟩; clear HE; go_wp2_with fail; go_ret; exact ⟨by first | (rw [HV.out]; rfl) | rw [HV.out], HD.out.bl⟩
    · have p0d : decide (plo < lo) = false := decide_eq_false p0
      by_cases p1 : hj < phi
      · have p1d : decide (hj < phi) = true := decide_eq_true p1; have HV : Sl (r = 7) := ⟨by rw [HE.out, if_neg]; unfold wiB; simp; omega⟩; clear HE; go_wp2_with fail; go_ret; exact ⟨by first | (rw [HV.out]; rfl) | rw [HV.out], HD.out.bl⟩
      · have p1d : decide (hj < phi) = false := decide_eq_false p1
        by_cases p2 : phi < plo
        · have p2d : decide (phi < plo) = true := decide_eq_true p2; have HV : Sl (r = 7) := ⟨by rw [HE.out, if_neg]; unfold wiB; simp; omega⟩; clear HE; go_wp2_with fail; go_ret; exact ⟨by first | (rw [HV.out]; rfl) | rw [HV.out], HD.out.bl⟩
        · have p2d : decide (phi < plo) = false := decide_eq_false p2
          by_cases p3 : sh < -96
          · have p3d : decide (sh < -96) = true := decide_eq_true p3; have HV : Sl (r = 7) := ⟨by rw [HE.out, if_neg]; unfold wiB; simp; omega⟩; clear HE; go_wp2_with fail; go_ret; exact ⟨by first | (rw [HV.out]; rfl) | rw [HV.out], HD.out.bl⟩
          · have p3d : decide (sh < -96) = false := decide_eq_false p3
            by_cases p4 : 96 < sh
            · have p4d : decide (96 < sh) = true := decide_eq_true p4; have HV : Sl (r = 7) := ⟨by rw [HE.out, if_neg]; unfold wiB; simp; omega⟩; clear HE; go_wp2_with fail; go_ret; exact ⟨by first | (rw [HV.out]; rfl) | rw [HV.out], HD.out.bl⟩
            · have p4d : decide (96 < sh) = false := decide_eq_false p4; have HOK : Sl ((wiB plo lo hj && (wiB phi plo hj && wiB sh (-96) 96)) = true) := ⟨by unfold wiB; simp; omega⟩; rw [if_pos HOK.out] at HE; have HBD : Sl (0 ≤ plo ∧ phi ≤ 1000 ∧ plo ≤ phi ∧ -96 ≤ sh ∧ sh ≤ 96) := ⟨by have := HDF.out; omega⟩; clear HOK; go_wp2_with fail; clear c2 c3 c4 c5 c6 p0 p1 p2 p3 p4 p0d p1d p2d p3d p4d
              go_loopw [8] (fun s8 wv => ∃ key : Int, plo ≤ key ∧ key ≤ phi + 1 ∧ s8 = .int .i64 key ∧ Sl (Lg w wv [(g7, 98, #[.string dn, .int .i64 lo, .int .i64 hj]), (g2, 102, #[.int .i64 (rk : Int), .int .i64 sh, .int .i64 plo, .int .i64 phi]), (g1, 90, #[.string s0, .int .i64 (dv : Int), .int .i64 s2, .int .i64 s3, .slice s4 s5 s6]), (g0, 33, #[.slice o.A1 o.n1 o.c1, .slice o.A2 o.n2 o.c2, .slice o.A3 o.n3 o.c3, .slice o.A4 o.n4 o.c4])]) ∧ Sl (∀ j, plo ≤ j → j < key → x.lo ≤ j + sh ∧ j + sh < x.lo + x.ct)) (fun s8 _ => (phi + 1 - RowKit.intOf s8).toNat)
              case atStart => exact ⟨plo, Int.le_refl _, by have := HBD.out; omega, rfl, HD, ⟨fun j h1 h2 => by omega⟩⟩
              case round =>
                clear HD; obtain ⟨key, hk0, hk1, rfl, HD, HK⟩ := hrel; have c3 : wr.cell? ⟨g2, 3, none⟩ = some (.int .i64 phi) := (HD.out.at_ 1 rfl).cell 3; have hb := HBD.out; have hkb : key ≤ 1001 := (by omega); have hkc : 0 ≤ key := (by omega)
                by_cases hkp : key ≤ phi
                · have hkd : decide (key ≤ phi) = true := decide_eq_true hkp; have HQ : Sl (∀ W, Below wr.heap.size wr W → Lg w W [(g7, 98, #[.string dn, .int .i64 lo, .int .i64 hj]), (g2, 102, #[.int .i64 (rk : Int), .int .i64 sh, .int .i64 plo, .int .i64 phi]), (g1, 90, #[.string s0, .int .i64 (dv : Int), .int .i64 s2, .int .i64 s3, .slice s4 s5 s6]), (g0, 33, #[.slice o.A1 o.n1 o.c1, .slice o.A2 o.n2 o.c2, .slice o.A3 o.n3 o.c3, .slice o.A4 o.n4 o.c4])]) := ⟨fun W hW => HD.out.below hW⟩; have hS0 : Below wr.heap.size wr wr.drew := below_drewN (Below.refl _ _) 1; have HS0 : Sl _ := ⟨hS0⟩; have hws : IntKind.i64.wrap (key + sh) = key + sh := (by rw [IntKind.wrap_i64]; omega); have HH : Sl _ := ⟨fun W : World => rhas_any2 x (key + sh) W HXB.out⟩; have HKP : Sl (key ≤ phi) := ⟨hkp⟩; obtain ⟨bb, hbb⟩ : ∃ bb, decide (x.lo ≤ key + sh ∧ key + sh < x.lo + x.ct) = bb := ⟨_, rfl⟩; rw [hbb] at HH; have HBB : Sl _ := ⟨hbb⟩; clear hbb; go_wp2_with fail; clear c3; have hm := hS0; refine wp_region_held_drew (S := fun w' => Below wr.heap.size wr w') (by kernel_rfl) hm (fun hHeld => ?_); clear hm; refine hS 0 (v := .pointer (some ⟨g0, 1, none⟩)) rfl rfl ?_; simp only [pS]
                  refine hC 1 (v := .slice (some ⟨gr, orr, none⟩) o.n2 o.c2) rfl rfl (fun w' h => by
                    have hc := (((HQ.out w' h).at_ 3 rfl).cell 1).trans (show _ = some (.slice (some ⟨gr, orr, none⟩) o.n2 o.c2) by rw [← HAR.out]; rfl)
                    go_simp) ?_
                  simp only [pS]; refine hS 2 (v := .pointer (some ⟨g2, 0, none⟩)) rfl rfl ?_; simp only [pS]
                  refine hC 3 (v := .int .i64 (rk : Int)) rfl rfl (fun w' h => by
                    have hc := ((HQ.out w' h).at_ 1 rfl).cell 0
                    go_simp) ?_
                  simp only [pS]; refine hS 4 (v := .pointer (some ⟨gr, orr + rk * 6, none⟩)) rfl rfl ?_; simp only [pS]; refine hL 5 100 (.tmp 63) rfl rfl rfl gr (orr + rk * 6) rfl #[.string x.nm, .int .i64 x.kd, .int .i64 x.fn, .int .i64 x.fd, .int .i64 x.lo, .int .i64 x.ct] _ (fun w' h => HXR.out w' (HQ.out w' h).bl) Tryz.underlying100 rfl ?_; simp only [pS]; refine hM 6 (v := .int .i64 key) rfl rfl ?_; simp only [pS]; refine hS 7 (v := .pointer (some ⟨g2, 1, none⟩)) rfl rfl ?_; simp only [pS]
                  refine hC 8 (v := .int .i64 sh) rfl rfl (fun w' h => by
                    have hc := ((HQ.out w' h).at_ 1 rfl).cell 1
                    go_simp) ?_
                  simp only [pS]; refine hS 9 (v := .int .i64 (key + sh)) rfl rfl ?_; simp only [pS]; refine hO 10 rfl rfl fun K hK => ?_; go_simp; go_at_call 120
                  (with_reducible refine (HH.out _).mono ?_)
                  rintro e4 w4 ⟨rfl, hb4⟩; have hb5 : Below wr.heap.size wr w4 := HS0.out.trans (hb4.mono HS0.out.size); have HB5 : Sl _ := ⟨hb5⟩; clear hb4 hb5; refine hK.out _ _ HB5.out (fun hHeld => ?_); clear hK K
                  (try simp only [pS])
                  refine hS 11 (v := .bool (!bb)) rfl rfl ?_; simp only [pS]; refine wpAnyH_done (by kernel_rfl) ?_ _; clear hHeld
                  cases bb with
                  | true =>
                    have hin := of_decide_eq_true HBB.out; go_wp2_with fail
                    exact ⟨⟨key + 1, by omega, by have := HKP.out; omega, by go_num, ⟨HD.out.below HB5.out⟩, ⟨fun j h1 h2 => by
                      rcases Int.lt_or_le j key with h3 | h3
                      · exact HK.out j h1 h3
                      · obtain rfl : j = key := (by omega)
                        exact hin⟩⟩, by have := HKP.out; simp [RowKit.intOf]; omega⟩
                  | false =>
                    have hin := of_decide_eq_false HBB.out; have HV : Sl (r = 4) := ⟨by rw [HE.out, if_pos]; have := HKP.out; have := HXB.out; omega⟩; clear HE hin; go_wp2_with fail; go_ret; exact ⟨by first | (rw [HV.out]; rfl) | rw [HV.out], HD.out.bl.trans (HB5.out.mono HD.out.bl.size)⟩
                · have hkd : decide (key ≤ phi) = false := decide_eq_false hkp
                  have HV : Sl (r = 0) := ⟨by
                    have h1 := HK.out plo (Int.le_refl _) (by omega); have h2 := HK.out phi (by omega) (by omega)
                    rw [HE.out, if_neg]; omega⟩
                  clear HE; go_wp2_with fail; go_ret; exact ⟨by first | (rw [HV.out]; rfl) | rw [HV.out], HD.out.bl⟩
theorem fstE_succ (f : Nat → Int) {n k : Nat} (h : k < n) : fstE f (n - k) k = if f k = 0 then fstE f (n - (k + 1)) (k + 1) else f k := by
  rw [show n - k = (n - (k + 1)) + 1 by omega]; rfl
theorem rdv_bd {o : SpO} (h1 : o.ds.length = o.n1) (h : fstE (rdvE o) o.n1 0 = 0) : ∀ d ∈ o.ds, 0 ≤ d.lo ∧ d.hi ≤ 1000 := fun d hd => by
  obtain ⟨i, hi, e⟩ := List.getElem_of_mem hd; have := fstE_zero h i (Nat.zero_le _) (by omega); unfold rdvE at this; rw [List.getElem?_eq_getElem hi, e] at this; simp only [Option.getD_some] at this
  split at this
  · split at this
    · cases this
    · split at this
      · rename_i h3; unfold wiB at h3; simp at h3; omega
      · cases this
  · cases this
theorem rrk_bd {o : SpO} (h1 : o.rs.length = o.n2) (h : fstE (rrkE o) o.n2 0 = 0) : ∀ r ∈ o.rs, (0 ≤ r.lo ∧ r.lo ≤ 1000) ∧ 0 ≤ r.ct ∧ r.ct ≤ 1000 := fun d hd => by
  obtain ⟨i, hi, e⟩ := List.getElem_of_mem hd; have := fstE_zero h i (Nat.zero_le _) (by omega); unfold rrkE at this; rw [List.getElem?_eq_getElem hi, e] at this; simp only [Option.getD_some] at this
  split at this
  · split at this
    · cases this
    · split at this
      · split at this
        · rename_i h3; unfold wiB at h3; simp at h3; omega
        · cases this
      · cases this
  · cases this
theorem rst_dv {o : SpO} {i : Nat} {x : SpV} (hx : o.ss[i]? = some x) (h : rstE o i = 0) : 0 ≤ x.dv ∧ x.dv < (o.n1 : Int) := by
  unfold rstE at h; rw [hx] at h; simp only [Option.getD_some] at h
  split at h
  · cases h
  · split at h
    · cases h
    · rename_i h2; have : wiB x.dv 0 ((o.n1 : Int) - 1) = true := (by simpa using h2); have := wi_iff.1 this; omega
theorem rcheck_any (o : SpO) (w : World) (hM : SpM w o) (hF : SpF o) :
    Calls Tryz.prog 29 #[.agg #[.slice o.A1 o.n1 o.c1, .slice o.A2 o.n2 o.c2, .slice o.A3 o.n3 o.c3, .slice o.A4 o.n4 o.c4]] w fun e w' => SpecR o e ∧ Below w.heap.size w w' := by
  have hlen : o.ds.length = o.n1 ∧ o.rs.length = o.n2 ∧ o.ss.length = o.n3 ∧ o.cs.length = o.n4 := ⟨hM.d.len, hM.r.len, hM.s.len, hM.c.len⟩; have hRE := refE_specE o hlen.1 hlen.2.1 hlen.2.2.1 hlen.2.2.2; have HD : Sl (Lg w w []) := ⟨Lg.nil w⟩; unfold SpecR; obtain ⟨r, hr⟩ : ∃ r, specE o = r := ⟨_, rfl⟩; rw [hr] at hRE ⊢; have HLEN : Sl _ := ⟨hlen⟩; have HM : Sl _ := ⟨hM⟩; have HF : Sl _ := ⟨hF⟩
  have HE : Sl (r = if 6 < o.n1 ∨ 40 < o.n2 ∨ 80 < o.n3 ∨ 24 < o.n4 then 3
    else if fstE (rdvE o) o.n1 0 = 0 then (if fstE (rrkE o) o.n2 0 = 0 then (if fstE (rsaE o) o.n3 0 = 0 then fstE (rcpE o) o.n4 0 else fstE (rsaE o) o.n3 0) else fstE (rrkE o) o.n2 0) else fstE (rdvE o) o.n1 0) := ⟨hRE.symm⟩
  obtain ⟨X1, h1⟩ : ∃ X, fstE (rdvE o) o.n1 0 = X := ⟨_, rfl⟩; obtain ⟨X2, h2⟩ : ∃ X, fstE (rrkE o) o.n2 0 = X := ⟨_, rfl⟩; obtain ⟨X3, h3⟩ : ∃ X, fstE (rsaE o) o.n3 0 = X := ⟨_, rfl⟩; obtain ⟨X4, h4⟩ : ∃ X, fstE (rcpE o) o.n4 0 = X := ⟨_, rfl⟩; have H1 : Sl _ := ⟨h1⟩; have H2 : Sl _ := ⟨h2⟩; have H3 : Sl _ := ⟨h3⟩; have H4 : Sl _ := ⟨h4⟩; rw [h1, h2, h3, h4] at HE; clear hM hF hlen hRE hr h1 h2 h3 h4; go_enter Tryz.func29, Tryz.ntmps29
  go_upto_region 1 with ((with_reducible show wpList _ _ _ _ _ _); first
    | (refine wpList_box_new 1 rfl rfl 33 (.tmp 0) rfl #[.slice o.A1 o.n1 o.c1, .slice o.A2 o.n2 o.c2, .slice o.A3 o.n3 o.c3, .slice o.A4 o.n4 o.c4] rfl (fun _ => by kernel_rfl) ?_; rintro w1 g1 zg zm zs zb; replace HD : Sl _ := ⟨HD.out.new zg zm zb⟩; clear zg zm zs zb)
    | (refine wpList_alloc_new 2 rfl rfl 72 rfl #[.int .i64 0, .int .i64 0, .int .i64 0] (fun _ => by kernel_rfl) ?_; rintro w2 g2 zg zm zs zb; replace HD : Sl _ := ⟨HD.out.new zg zm zb⟩; clear zg zm zs zb))
  have c0 : w2.cell? ⟨g1, 0, none⟩ = some (.slice o.A1 o.n1 o.c1) := (HD.out.at_ 1 rfl).cell 0; have c1 : w2.cell? ⟨g1, 1, none⟩ = some (.slice o.A2 o.n2 o.c2) := (HD.out.at_ 1 rfl).cell 1; have c2 : w2.cell? ⟨g1, 2, none⟩ = some (.slice o.A3 o.n3 o.c3) := (HD.out.at_ 1 rfl).cell 2; have c3 : w2.cell? ⟨g1, 3, none⟩ = some (.slice o.A4 o.n4 o.c4) := (HD.out.at_ 1 rfl).cell 3
  by_cases b0 : 6 < o.n1
  · have p0 : (6 : Int) < (o.n1 : Int) := (by omega); have p0d : decide ((6 : Int) < (o.n1 : Int)) = true := decide_eq_true p0; have HV : Sl (r = 3) := ⟨by rw [HE.out, if_pos (.inl b0)]⟩; clear HE
    go_wp2_with ((with_reducible show wpList _ _ _ _ _ _); first
      | (refine wpList_store_whole rfl 72 (.tmp 2) (.tmp 36) rfl g2 #[.int .i64 0, .int .i64 0, .int .i64 0] rfl rfl 72 _ (HD.out.at_ 0 rfl) rfl (by kernel_rfl) (by simp [Value.oneCell']) ?_; rintro w9 zm zs zb; have HZ : Sl _ := ⟨HD.out.set 0 rfl zm zb⟩; clear zm zs zb))
    (try simp only [Exit.inBlock, Exit.then])
    refine bodyPost_ret (results_row2c rfl _ _ g2 _ _ _ rfl (HZ.out.at_ 0 rfl) Tryz.underlying72 rfl (by kernel_rfl)) rfl ?_; exact ⟨⟨_, _, _, by rw [HV.out]; rfl⟩, HZ.out.bl⟩
  have p0 : ¬ (6 : Int) < (o.n1 : Int) := (by omega); have p0d : decide ((6 : Int) < (o.n1 : Int)) = false := decide_eq_false p0
  by_cases b1 : 40 < o.n2
  · have p1 : (40 : Int) < (o.n2 : Int) := (by omega); have p1d : decide ((40 : Int) < (o.n2 : Int)) = true := decide_eq_true p1; have HV : Sl (r = 3) := ⟨by rw [HE.out, if_pos (.inr (.inl b1))]⟩; clear HE
    go_wp2_with ((with_reducible show wpList _ _ _ _ _ _); first
      | (refine wpList_store_whole rfl 72 (.tmp 2) (.tmp 36) rfl g2 #[.int .i64 0, .int .i64 0, .int .i64 0] rfl rfl 72 _ (HD.out.at_ 0 rfl) rfl (by kernel_rfl) (by simp [Value.oneCell']) ?_; rintro w9 zm zs zb; have HZ : Sl _ := ⟨HD.out.set 0 rfl zm zb⟩; clear zm zs zb))
    (try simp only [Exit.inBlock, Exit.then])
    refine bodyPost_ret (results_row2c rfl _ _ g2 _ _ _ rfl (HZ.out.at_ 0 rfl) Tryz.underlying72 rfl (by kernel_rfl)) rfl ?_; exact ⟨⟨_, _, _, by rw [HV.out]; rfl⟩, HZ.out.bl⟩
  have p1 : ¬ (40 : Int) < (o.n2 : Int) := (by omega); have p1d : decide ((40 : Int) < (o.n2 : Int)) = false := decide_eq_false p1
  by_cases b2 : 80 < o.n3
  · have p2 : (80 : Int) < (o.n3 : Int) := (by omega); have p2d : decide ((80 : Int) < (o.n3 : Int)) = true := decide_eq_true p2; have HV : Sl (r = 3) := ⟨by rw [HE.out, if_pos (.inr (.inr (.inl b2)))]⟩; clear HE
    go_wp2_with ((with_reducible show wpList _ _ _ _ _ _); first
      | (refine wpList_store_whole rfl 72 (.tmp 2) (.tmp 36) rfl g2 #[.int .i64 0, .int .i64 0, .int .i64 0] rfl rfl 72 _ (HD.out.at_ 0 rfl) rfl (by kernel_rfl) (by simp [Value.oneCell']) ?_; rintro w9 zm zs zb; have HZ : Sl _ := ⟨HD.out.set 0 rfl zm zb⟩; clear zm zs zb))
    (try simp only [Exit.inBlock, Exit.then])
    refine bodyPost_ret (results_row2c rfl _ _ g2 _ _ _ rfl (HZ.out.at_ 0 rfl) Tryz.underlying72 rfl (by kernel_rfl)) rfl ?_; exact ⟨⟨_, _, _, by rw [HV.out]; rfl⟩, HZ.out.bl⟩
  have p2 : ¬ (80 : Int) < (o.n3 : Int) := (by omega); have p2d : decide ((80 : Int) < (o.n3 : Int)) = false := decide_eq_false p2
  by_cases b3 : 24 < o.n4
  · have p3 : (24 : Int) < (o.n4 : Int) := (by omega); have p3d : decide ((24 : Int) < (o.n4 : Int)) = true := decide_eq_true p3; have HV : Sl (r = 3) := ⟨by rw [HE.out, if_pos (.inr (.inr (.inr b3)))]⟩; clear HE
    go_wp2_with ((with_reducible show wpList _ _ _ _ _ _); first
      | (refine wpList_store_whole rfl 72 (.tmp 2) (.tmp 36) rfl g2 #[.int .i64 0, .int .i64 0, .int .i64 0] rfl rfl 72 _ (HD.out.at_ 0 rfl) rfl (by kernel_rfl) (by simp [Value.oneCell']) ?_; rintro w9 zm zs zb; have HZ : Sl _ := ⟨HD.out.set 0 rfl zm zb⟩; clear zm zs zb))
    (try simp only [Exit.inBlock, Exit.then])
    refine bodyPost_ret (results_row2c rfl _ _ g2 _ _ _ rfl (HZ.out.at_ 0 rfl) Tryz.underlying72 rfl (by kernel_rfl)) rfl ?_; exact ⟨⟨_, _, _, by rw [HV.out]; rfl⟩, HZ.out.bl⟩
  have p3 : ¬ (24 : Int) < (o.n4 : Int) := (by omega); have p3d : decide ((24 : Int) < (o.n4 : Int)) = false := decide_eq_false p3; have HN : Sl (o.n1 ≤ 6 ∧ o.n2 ≤ 40 ∧ o.n3 ≤ 80 ∧ o.n4 ≤ 24) := ⟨by omega⟩; rw [if_neg (by omega)] at HE; go_wp2_with fail; clear c0 c1 c2 c3 p0 p1 p2 p3 p0d p1d p2d p3d b0 b1 b2 b3
  go_loopw [4] (fun s6 wv => ∃ k : Nat, k ≤ o.n1 ∧ s6 = .int .i64 (k : Int) ∧ Sl (Lg w wv [(g2, 72, #[.int .i64 0, .int .i64 0, .int .i64 0]), (g1, 33, #[.slice o.A1 o.n1 o.c1, .slice o.A2 o.n2 o.c2, .slice o.A3 o.n3 o.c3, .slice o.A4 o.n4 o.c4])]) ∧ Sl (fstE (rdvE o) (o.n1 - k) k = X1)) (fun s6 _ => o.n1 - (RowKit.intOf s6).toNat)
  case atStart => exact ⟨0, Nat.zero_le _, rfl, HD, ⟨H1.out⟩⟩
  case round =>
    clear HD; obtain ⟨k, hk, rfl, HD, HK⟩ := hrel; have c0 : wr.cell? ⟨g1, 0, none⟩ = some (.slice o.A1 o.n1 o.c1) := (HD.out.at_ 1 rfl).cell 0; have hn80 : (o.n1 : Int) ≤ 80 := (by have := HN.out; omega)
    by_cases hkn : k < o.n1
    · have hkI : decide ((k : Int) < (o.n1 : Int)) = true := decide_eq_true (by omega); have hkI2 : (k : Int) < (o.n1 : Int) := (by omega); have HKN : Sl (k < o.n1) := ⟨hkn⟩; have HSU := fstE_succ (rdvE o) hkn; rw [HK.out] at HSU; have HS2 : Sl _ := ⟨HSU⟩; clear HSU
      go_wp2_with ((with_reducible show wpList _ _ _ _ _ _); first
        | (refine wpList_load_whole rfl 33 (.tmp 1) rfl g1 rfl 33 _ _ (HD.out.at_ 1 rfl) Tryz.underlying33 rfl (by kernel_rfl) ?_))
      refine (rdivision_any o k wr (HM.out.below HD.out.bl) HF.out HKN.out (by have := HN.out; omega)).mono ?_; rintro e w5 ⟨rfl, hb5⟩; replace HD : Sl _ := ⟨HD.out.below hb5⟩; clear hb5 c0; obtain ⟨z, hz⟩ : ∃ z, rdvE o k = z := ⟨_, rfl⟩; rw [hz] at HS2 ⊢; clear hz
      by_cases hz0 : z = 0
      · subst hz0; rw [if_pos rfl] at HS2; have HS3 : Sl _ := ⟨HS2.out.symm⟩; have hzz : ((0 : Int) != 0) = false := (by decide); go_wp2_with fail; exact ⟨⟨k + 1, hkn, by go_num, HD, HS3⟩, by simp [RowKit.intOf]; omega⟩
      · rw [if_neg hz0] at HS2; have hzz : (z != 0) = true := (by simpa using hz0); have HV : Sl (r = z) := ⟨by rw [HE.out, HS2.out]; rw [if_neg hz0]⟩; clear HE hz0
        go_wp2_with ((with_reducible show wpList _ _ _ _ _ _); first
          | (refine wpList_store_whole rfl 72 (.tmp 2) (.tmp 50) rfl g2 #[.int .i64 1, .int .i64 (k : Int), .int .i64 0] rfl rfl 72 _ (HD.out.at_ 0 rfl) rfl (by kernel_rfl) (by simp [Value.oneCell']) ?_; rintro w9 zm zs zb; have HZ : Sl _ := ⟨HD.out.set 0 rfl zm zb⟩; clear zm zs zb))
        (try simp only [Exit.inBlock, Exit.then])
        refine bodyPost_ret (results_row2c rfl _ _ g2 _ _ _ rfl (HZ.out.at_ 0 rfl) Tryz.underlying72 rfl (by kernel_rfl)) rfl ?_; exact ⟨⟨_, _, _, by rw [HV.out]; rfl⟩, HZ.out.bl⟩
    · obtain rfl : o.n1 = k := (by omega); have hkI : decide ((o.n1 : Int) < (o.n1 : Int)) = false := (by simp); have hX1 : X1 = 0 := (by rw [← HK.out, Nat.sub_self]; rfl); subst hX1; rw [if_pos rfl] at HE; have HDB : Sl _ := ⟨rdv_bd HLEN.out.1 H1.out⟩; clear HK hkn hk; go_wp2_with fail; clear c0 hkI
      go_loopw [6] (fun s6 wv => ∃ k : Nat, k ≤ o.n2 ∧ s6 = .int .i64 (k : Int) ∧ Sl (Lg w wv [(g2, 72, #[.int .i64 0, .int .i64 0, .int .i64 0]), (g1, 33, #[.slice o.A1 o.n1 o.c1, .slice o.A2 o.n2 o.c2, .slice o.A3 o.n3 o.c3, .slice o.A4 o.n4 o.c4])]) ∧ Sl (fstE (rrkE o) (o.n2 - k) k = X2)) (fun s6 _ => o.n2 - (RowKit.intOf s6).toNat)
      case atStart => exact ⟨0, Nat.zero_le _, rfl, HD, ⟨H2.out⟩⟩
      case round =>
        clear HD; obtain ⟨k, hk, rfl, HD, HK⟩ := hrel; have c0 : wr.cell? ⟨g1, 1, none⟩ = some (.slice o.A2 o.n2 o.c2) := (HD.out.at_ 1 rfl).cell 1; have hn80 : (o.n2 : Int) ≤ 80 := (by have := HN.out; omega)
        by_cases hkn : k < o.n2
        · have hkI : decide ((k : Int) < (o.n2 : Int)) = true := decide_eq_true (by omega); have hkI2 : (k : Int) < (o.n2 : Int) := (by omega); have HKN : Sl (k < o.n2) := ⟨hkn⟩; have HSU := fstE_succ (rrkE o) hkn; rw [HK.out] at HSU; have HS2 : Sl _ := ⟨HSU⟩; clear HSU
          go_wp2_with ((with_reducible show wpList _ _ _ _ _ _); first
            | (refine wpList_load_whole rfl 33 (.tmp 1) rfl g1 rfl 33 _ _ (HD.out.at_ 1 rfl) Tryz.underlying33 rfl (by kernel_rfl) ?_))
          refine (rrank_any o k wr (HM.out.below HD.out.bl) HF.out HKN.out (by have := HN.out; omega)).mono ?_; rintro e w5 ⟨rfl, hb5⟩; replace HD : Sl _ := ⟨HD.out.below hb5⟩; clear hb5 c0; obtain ⟨z, hz⟩ : ∃ z, rrkE o k = z := ⟨_, rfl⟩; rw [hz] at HS2 ⊢; clear hz
          by_cases hz0 : z = 0
          · subst hz0; rw [if_pos rfl] at HS2; have HS3 : Sl _ := ⟨HS2.out.symm⟩; have hzz : ((0 : Int) != 0) = false := (by decide); go_wp2_with fail; exact ⟨⟨k + 1, hkn, by go_num, HD, HS3⟩, by simp [RowKit.intOf]; omega⟩
          · rw [if_neg hz0] at HS2; have hzz : (z != 0) = true := (by simpa using hz0); have HV : Sl (r = z) := ⟨by rw [HE.out, HS2.out]; rw [if_neg hz0]⟩; clear HE hz0
            go_wp2_with ((with_reducible show wpList _ _ _ _ _ _); first
              | (refine wpList_store_whole rfl 72 (.tmp 2) (.tmp 65) rfl g2 #[.int .i64 2, .int .i64 (k : Int), .int .i64 0] rfl rfl 72 _ (HD.out.at_ 0 rfl) rfl (by kernel_rfl) (by simp [Value.oneCell']) ?_; rintro w9 zm zs zb; have HZ : Sl _ := ⟨HD.out.set 0 rfl zm zb⟩; clear zm zs zb))
            (try simp only [Exit.inBlock, Exit.then])
            refine bodyPost_ret (results_row2c rfl _ _ g2 _ _ _ rfl (HZ.out.at_ 0 rfl) Tryz.underlying72 rfl (by kernel_rfl)) rfl ?_; exact ⟨⟨_, _, _, by rw [HV.out]; rfl⟩, HZ.out.bl⟩
        · obtain rfl : o.n2 = k := (by omega); have hkI : decide ((o.n2 : Int) < (o.n2 : Int)) = false := (by simp); have hX2 : X2 = 0 := (by rw [← HK.out, Nat.sub_self]; rfl); subst hX2; rw [if_pos rfl] at HE; have HRB : Sl _ := ⟨rrk_bd HLEN.out.2.1 H2.out⟩; clear HK hkn hk; go_wp2_with fail; clear c0 hkI
          go_loopw [8] (fun s6 wv => ∃ k : Nat, k ≤ o.n3 ∧ s6 = .int .i64 (k : Int) ∧ Sl (Lg w wv [(g2, 72, #[.int .i64 0, .int .i64 0, .int .i64 0]), (g1, 33, #[.slice o.A1 o.n1 o.c1, .slice o.A2 o.n2 o.c2, .slice o.A3 o.n3 o.c3, .slice o.A4 o.n4 o.c4])]) ∧ Sl (fstE (rsaE o) (o.n3 - k) k = X3)) (fun s6 _ => o.n3 - (RowKit.intOf s6).toNat)
          case atStart => exact ⟨0, Nat.zero_le _, rfl, HD, ⟨H3.out⟩⟩
          case round =>
            clear HD; obtain ⟨k, hk, rfl, HD, HK⟩ := hrel; have c0 : wr.cell? ⟨g1, 2, none⟩ = some (.slice o.A3 o.n3 o.c3) := (HD.out.at_ 1 rfl).cell 2; have hn80 : (o.n3 : Int) ≤ 80 := (by have := HN.out; omega)
            by_cases hkn : k < o.n3
            · have hkI : decide ((k : Int) < (o.n3 : Int)) = true := decide_eq_true (by omega); have hkI2 : (k : Int) < (o.n3 : Int) := (by omega); have HKN : Sl (k < o.n3) := ⟨hkn⟩; have HSU := fstE_succ (rsaE o) hkn; rw [HK.out] at HSU; have HS2 : Sl _ := ⟨HSU⟩; clear HSU
              go_wp2_with ((with_reducible show wpList _ _ _ _ _ _); first
                | (refine wpList_load_whole rfl 33 (.tmp 1) rfl g1 rfl 33 _ _ (HD.out.at_ 1 rfl) Tryz.underlying33 rfl (by kernel_rfl) ?_))
              refine (rstop_any o k wr (HM.out.below HD.out.bl) HF.out HKN.out (by have := HN.out; omega) (by have := HN.out; omega)).mono ?_; rintro e w5 ⟨rfl, hb5⟩; replace HD : Sl _ := ⟨HD.out.below hb5⟩; clear hb5 c0; have hx0 : ∃ x, o.ss[k]? = some x := ⟨_, List.getElem?_eq_getElem (by rw [HLEN.out.2.2.1]; exact hkn)⟩; obtain ⟨x, hx⟩ := hx0; have HX : Sl _ := ⟨hx⟩; have HRA : Sl (rsaE o k = if rstE o k = 0 then fstE (fun j => prtE o.rs (o.ds[x.dv.toNat]?.getD dv0) (x.ps[j]?.getD pr0)) x.ps.length 0 else rstE o k) := ⟨by unfold rsaE; rw [hx]; rfl⟩; have HDV : Sl (rstE o k = 0 → 0 ≤ x.dv ∧ x.dv < (o.n1 : Int)) := ⟨rst_dv hx⟩; obtain ⟨z, hz⟩ : ∃ z, rstE o k = z := ⟨_, rfl⟩; rw [hz] at HRA HDV ⊢; clear hz hx
              by_cases hz0 : z = 0
              · subst hz0; rw [if_pos rfl] at HRA; have hzz : ((0 : Int) != 0) = false := (by decide); have hdv := HDV.out rfl; obtain ⟨Y, hY⟩ : ∃ Y, rsaE o k = Y := ⟨_, rfl⟩; rw [hY] at HRA HS2; clear HDV hY; obtain ⟨nm, dv, fn, fd, PA, pn, pc, ps⟩ := x; simp only [] at HRA HX hdv; obtain ⟨dv, rfl⟩ := Int.eq_ofNat_of_zero_le hdv.1; rw [Int.toNat_natCast] at HRA; have HDV : Sl (dv < o.n1) := ⟨by omega⟩; have HPM : Sl _ := ⟨HM.out.p _ (List.mem_of_getElem? HX.out)⟩; have HPF : Sl _ := ⟨HF.out.s _ (List.mem_of_getElem? HX.out)⟩; have HPL : Sl (ps.length = pn) := ⟨HPM.out.len⟩; rw [HPL.out] at HRA; obtain ⟨gs, os, hAs, hgs, halls⟩ := HM.out.s.all_ (by decide) (show 0 < o.n3 by omega); have HAS : Sl _ := ⟨hAs⟩
                have HSR : Sl (∀ W, Below w.heap.size w W → W.rangeAt gs (os + k * 5) [.string nm, .int .i64 (dv : Int), .int .i64 fn, .int .i64 fd, .slice PA pn pc]) := ⟨fun W hW => by
                  obtain ⟨x2, hx2, h2⟩ := halls W hW k HKN.out; rw [HX.out] at hx2; injection hx2 with hx2
                  subst hx2
                  exact h2⟩
                have hk0 : (0 : Int) ≤ (k : Int) := (by omega); clear hdv hAs hgs halls; go_wp2_with fail
                go_loopw [10] (fun s10 wv => ∃ j : Nat, j ≤ pn ∧ s10 = .int .i64 (j : Int) ∧ Sl (Lg w wv [(g2, 72, #[.int .i64 0, .int .i64 0, .int .i64 0]), (g1, 33, #[.slice o.A1 o.n1 o.c1, .slice o.A2 o.n2 o.c2, .slice o.A3 o.n3 o.c3, .slice o.A4 o.n4 o.c4])]) ∧ Sl (fstE (fun j => prtE o.rs (o.ds[dv]?.getD dv0) (ps[j]?.getD pr0)) (pn - j) j = Y)) (fun s10 _ => pn - (RowKit.intOf s10).toNat)
                case atStart => exact ⟨0, Nat.zero_le _, rfl, HD, ⟨HRA.out.symm⟩⟩
                case round =>
                  clear HD; obtain ⟨j, hj, rfl, HD, HJ⟩ := hrel; have c0 : wr.cell? ⟨g1, 2, none⟩ = some (.slice (some ⟨gs, os, none⟩) o.n3 o.c3) := (by rw [← HAS.out]; exact (HD.out.at_ 1 rfl).cell 2); have c4 : wr.cell? ⟨gs, os + k * 5 + 4, none⟩ = some (.slice PA pn pc) := HSR.out _ HD.out.bl 4 _ rfl; have hpn : (pn : Int) ≤ 9223372036854775807 := (by have := HPF.out.2.2.2.2.1; unfold maxLen at this; omega)
                  by_cases hjn : j < pn
                  · have hjI : decide ((j : Int) < (pn : Int)) = true := decide_eq_true (by omega); have hjI2 : (j : Int) < (pn : Int) := (by omega); have hj0 : (0 : Int) ≤ (j : Int) := (by omega); have HJU := fstE_succ (fun j => prtE o.rs (o.ds[dv]?.getD dv0) (ps[j]?.getD pr0)) hjn; rw [HJ.out] at HJU; obtain ⟨gp, op, hAp, hgp, hallp⟩ := HPM.out.all_ (by decide) (show 0 < pn by omega); obtain ⟨p, hp, _⟩ := hallp w (Below.refl _ _) j hjn
                    have HPR : Sl (∀ W, Below w.heap.size w W → W.rangeAt gp (op + j * 4) [.int .i64 p.rk, .int .i64 p.sh, .int .i64 p.lo, .int .i64 p.hi]) := ⟨fun W hW => by
                      obtain ⟨x2, hx2, h2⟩ := hallp W hW j hjn; have hx3 : some p = some x2 := hp.symm.trans hx2; injection hx3 with hx3
                      subst hx3
                      exact h2⟩
                    (try simp only [] at hp hAp)
                    rw [hp, Option.getD_some] at HJU; have HJ2 : Sl _ := ⟨HJU⟩; have HAP : Sl (PA = some ⟨gp, op, none⟩) := ⟨hAp⟩; have HRK : Sl (i64 p.rk) := ⟨(HPF.out.2.2.2.2.2 p (List.mem_of_getElem? hp)).1⟩; have HJN : Sl (j < pn) := ⟨hjn⟩; obtain ⟨y, hy⟩ : ∃ y, prtE o.rs (o.ds[dv]?.getD dv0) p = y := ⟨_, rfl⟩; have HY : Sl _ := ⟨hy⟩; rw [hy] at HJ2; have hS0 : Below wr.heap.size wr wr.drew := below_drewN (Below.refl _ _) 1; have HS0 : Sl _ := ⟨hS0⟩; have HQ : Sl (∀ W, Below wr.heap.size wr W → Lg w W [(g2, 72, #[.int .i64 0, .int .i64 0, .int .i64 0]), (g1, 33, #[.slice o.A1 o.n1 o.c1, .slice o.A2 o.n2 o.c2, .slice o.A3 o.n3 o.c3, .slice o.A4 o.n4 o.c4])]) := ⟨fun W hW => HD.out.below hW⟩; clear hp hAp hallp HJU hgp hy; go_wp2_with fail; clear c0 c4; have hm := hS0; refine wp_region_held_drew (S := fun w' => Below wr.heap.size wr w') (by kernel_rfl) hm (fun hHeld => ?_); clear hm
                    refine hL 0 33 (.tmp 1) rfl rfl rfl g1 0 rfl #[.slice o.A1 o.n1 o.c1, .slice o.A2 o.n2 o.c2, .slice o.A3 o.n3 o.c3, .slice o.A4 o.n4 o.c4] _ (fun w' h => by
                      have := World.rangeAt_of_block ((HQ.out w' h).at_ 1 rfl) 0 4
                      exact this) Tryz.underlying33 rfl ?_
                    simp only [pS]; refine hS 1 (v := .pointer (some ⟨g1, 2, none⟩)) rfl rfl ?_; simp only [pS]
                    refine hC 2 (v := .slice (some ⟨gs, os, none⟩) o.n3 o.c3) rfl rfl (fun w' h => by
                      have hc := (((HQ.out w' h).at_ 1 rfl).cell 2).trans (show _ = some (.slice (some ⟨gs, os, none⟩) o.n3 o.c3) by rw [← HAS.out]; rfl)
                      go_simp) ?_
                    simp only [pS]; refine hM 3 (v := .int .i64 (k : Int)) rfl rfl ?_; simp only [pS]; refine hS 4 (v := .pointer (some ⟨gs, os + k * 5, none⟩)) rfl rfl ?_; simp only [pS]; refine hL 5 90 (.tmp 97) rfl rfl rfl gs (os + k * 5) rfl #[.string nm, .int .i64 (dv : Int), .int .i64 fn, .int .i64 fd, .slice PA pn pc] _ (fun w' h => HSR.out w' (HQ.out w' h).bl) Tryz.underlying90 rfl ?_; simp only [pS]; refine hS 6 (v := .pointer (some ⟨g1, 2, none⟩)) rfl rfl ?_; simp only [pS]
                    refine hC 7 (v := .slice (some ⟨gs, os, none⟩) o.n3 o.c3) rfl rfl (fun w' h => by
                      have hc := (((HQ.out w' h).at_ 1 rfl).cell 2).trans (show _ = some (.slice (some ⟨gs, os, none⟩) o.n3 o.c3) by rw [← HAS.out]; rfl)
                      go_simp) ?_
                    simp only [pS]; refine hM 8 (v := .int .i64 (k : Int)) rfl rfl ?_; simp only [pS]; refine hS 9 (v := .pointer (some ⟨gs, os + k * 5, none⟩)) rfl rfl ?_; simp only [pS]; refine hS 10 (v := .pointer (some ⟨gs, os + k * 5 + 4, none⟩)) rfl rfl ?_; simp only [pS]
                    refine hC 11 (v := .slice (some ⟨gp, op, none⟩) pn pc) rfl rfl (fun w' h => by
                      have hc := (HSR.out w' (HQ.out w' h).bl 4 _ rfl).trans (show _ = some (.slice (some ⟨gp, op, none⟩) pn pc) by rw [← HAP.out])
                      go_simp) ?_
                    simp only [pS]; refine hM 12 (v := .int .i64 (j : Int)) rfl rfl ?_; simp only [pS]; refine hS 13 (v := .pointer (some ⟨gp, op + j * 4, none⟩)) rfl rfl ?_; simp only [pS]; refine hL 14 102 (.tmp 106) rfl rfl rfl gp (op + j * 4) rfl #[.int .i64 p.rk, .int .i64 p.sh, .int .i64 p.lo, .int .i64 p.hi] _ (fun w' h => HPR.out w' (HQ.out w' h).bl) Tryz.underlying102 rfl ?_; simp only [pS]; refine hO 15 rfl rfl fun K hK => ?_; go_simp; go_at_call 70
                    (with_reducible refine (rpart_any o nm dv fn fd PA pn pc p _ (HM.out.below (HQ.out _ HS0.out).bl) HDV.out (by have := HN.out; omega) (by have := HN.out; omega) HRB.out HDB.out HRK.out).mono ?_)
                    rintro e4 w4 ⟨rfl, hb4⟩; have hb5 : Below wr.heap.size wr w4 := HS0.out.trans (hb4.mono HS0.out.size); have HB5 : Sl _ := ⟨hb5⟩; clear hb4 hb5; rw [HY.out]; refine hK.out _ _ HB5.out (fun hHeld => ?_); clear hK K
                    (try simp only [pS])
                    refine hM 16 (v := .int .i64 y) rfl rfl ?_; simp only [pS]; refine wpAnyH_done (by kernel_rfl) ?_ _; clear hHeld; replace HD : Sl _ := ⟨HQ.out _ HB5.out⟩; clear HQ HS0
                    by_cases hy0 : y = 0
                    · subst hy0; rw [if_pos rfl] at HJ2; have HJ3 : Sl _ := ⟨HJ2.out.symm⟩; have hyy : ((0 : Int) != 0) = false := (by decide); go_wp2_with fail; exact ⟨⟨j + 1, HJN.out, by go_num, HD, HJ3⟩, by have := HJN.out; simp [RowKit.intOf]; omega⟩
                    · rw [if_neg hy0] at HJ2; have hyy : (y != 0) = true := (by simpa using hy0); have HV : Sl (r = y) := ⟨by rw [HE.out, HS2.out, HJ2.out, if_neg hy0, if_neg hy0]⟩; have hjw : IntKind.i64.wrap ((j : Int) + 1) = (j : Int) + 1 := (by rw [IntKind.wrap_i64]; omega); clear HE hy0
                      go_wp2_with ((with_reducible show wpList _ _ _ _ _ _); first
                        | (refine wpList_store_whole rfl 72 (.tmp 2) (.tmp 114) rfl g2 #[.int .i64 3, .int .i64 (k : Int), .int .i64 ((j : Int) + 1)] rfl rfl 72 _ (HD.out.at_ 0 rfl) rfl (by kernel_rfl) (by simp [Value.oneCell']) ?_; rintro w9 zm zs zb; have HZ : Sl _ := ⟨HD.out.set 0 rfl zm zb⟩; clear zm zs zb))
                      (try simp only [Exit.inBlock, Exit.then])
                      refine bodyPost_ret (results_row2c rfl _ _ g2 _ _ _ rfl (HZ.out.at_ 0 rfl) Tryz.underlying72 rfl (by kernel_rfl)) rfl ?_; exact ⟨⟨_, _, _, by rw [HV.out]; rfl⟩, HZ.out.bl⟩
                  · obtain rfl : pn = j := (by omega); have hjI : decide ((pn : Int) < (pn : Int)) = false := (by simp); have hY0 : Y = 0 := (by rw [← HJ.out, Nat.sub_self]; rfl); subst hY0; rw [if_pos rfl] at HS2; have HS3 : Sl _ := ⟨HS2.out.symm⟩; clear HJ hjn hj; go_wp2_with fail; exact ⟨⟨k + 1, HKN.out, by go_num, HD, HS3⟩, by have := HKN.out; simp [RowKit.intOf]; omega⟩
              · have HRZ : Sl (rsaE o k = z) := ⟨by rw [HRA.out, if_neg hz0]⟩; rw [HRZ.out, if_neg hz0] at HS2; have hzz : (z != 0) = true := (by simpa using hz0); have HV : Sl (r = z) := ⟨by rw [HE.out, HS2.out, if_neg hz0]⟩; clear HE hz0 HRA HRZ
                go_wp2_with ((with_reducible show wpList _ _ _ _ _ _); first
                  | (refine wpList_store_whole rfl 72 (.tmp 2) (.tmp 80) rfl g2 #[.int .i64 3, .int .i64 (k : Int), .int .i64 0] rfl rfl 72 _ (HD.out.at_ 0 rfl) rfl (by kernel_rfl) (by simp [Value.oneCell']) ?_; rintro w9 zm zs zb; have HZ : Sl _ := ⟨HD.out.set 0 rfl zm zb⟩; clear zm zs zb))
                (try simp only [Exit.inBlock, Exit.then])
                refine bodyPost_ret (results_row2c rfl _ _ g2 _ _ _ rfl (HZ.out.at_ 0 rfl) Tryz.underlying72 rfl (by kernel_rfl)) rfl ?_; exact ⟨⟨_, _, _, by rw [HV.out]; rfl⟩, HZ.out.bl⟩
            · obtain rfl : o.n3 = k := (by omega); have hkI : decide ((o.n3 : Int) < (o.n3 : Int)) = false := (by simp); have hX3 : X3 = 0 := (by rw [← HK.out, Nat.sub_self]; rfl); subst hX3; rw [if_pos rfl] at HE; clear HK hkn hk; go_wp2_with fail; clear c0 hkI
              go_loopw [12] (fun s6 wv => ∃ k : Nat, k ≤ o.n4 ∧ s6 = .int .i64 (k : Int) ∧ Sl (Lg w wv [(g2, 72, #[.int .i64 0, .int .i64 0, .int .i64 0]), (g1, 33, #[.slice o.A1 o.n1 o.c1, .slice o.A2 o.n2 o.c2, .slice o.A3 o.n3 o.c3, .slice o.A4 o.n4 o.c4])]) ∧ Sl (fstE (rcpE o) (o.n4 - k) k = X4)) (fun s6 _ => o.n4 - (RowKit.intOf s6).toNat)
              case atStart => exact ⟨0, Nat.zero_le _, rfl, HD, ⟨H4.out⟩⟩
              case round =>
                clear HD; obtain ⟨k, hk, rfl, HD, HK⟩ := hrel; have c0 : wr.cell? ⟨g1, 3, none⟩ = some (.slice o.A4 o.n4 o.c4) := (HD.out.at_ 1 rfl).cell 3; have hn80 : (o.n4 : Int) ≤ 80 := (by have := HN.out; omega)
                by_cases hkn : k < o.n4
                · have hkI : decide ((k : Int) < (o.n4 : Int)) = true := decide_eq_true (by omega); have hkI2 : (k : Int) < (o.n4 : Int) := (by omega); have HKN : Sl (k < o.n4) := ⟨hkn⟩; have HSU := fstE_succ (rcpE o) hkn; rw [HK.out] at HSU; have HS2 : Sl _ := ⟨HSU⟩; clear HSU
                  go_wp2_with ((with_reducible show wpList _ _ _ _ _ _); first
                    | (refine wpList_load_whole rfl 33 (.tmp 1) rfl g1 rfl 33 _ _ (HD.out.at_ 1 rfl) Tryz.underlying33 rfl (by kernel_rfl) ?_))
                  refine (rcoupler_any o k wr (HM.out.below HD.out.bl) HF.out HKN.out (by have := HN.out; omega)).mono ?_; rintro e w5 ⟨rfl, hb5⟩; replace HD : Sl _ := ⟨HD.out.below hb5⟩; clear hb5 c0; obtain ⟨z, hz⟩ : ∃ z, rcpE o k = z := ⟨_, rfl⟩; rw [hz] at HS2 ⊢; clear hz
                  by_cases hz0 : z = 0
                  · subst hz0; rw [if_pos rfl] at HS2; have HS3 : Sl _ := ⟨HS2.out.symm⟩; have hzz : ((0 : Int) != 0) = false := (by decide); go_wp2_with fail; exact ⟨⟨k + 1, hkn, by go_num, HD, HS3⟩, by simp [RowKit.intOf]; omega⟩
                  · rw [if_neg hz0] at HS2; have hzz : (z != 0) = true := (by simpa using hz0); have HV : Sl (r = z) := ⟨by rw [HE.out, HS2.out]; (try rw [if_neg hz0])⟩; clear HE hz0
                    go_wp2_with ((with_reducible show wpList _ _ _ _ _ _); first
                      | (refine wpList_store_whole rfl 72 (.tmp 2) (.tmp 129) rfl g2 #[.int .i64 4, .int .i64 (k : Int), .int .i64 0] rfl rfl 72 _ (HD.out.at_ 0 rfl) rfl (by kernel_rfl) (by simp [Value.oneCell']) ?_; rintro w9 zm zs zb; have HZ : Sl _ := ⟨HD.out.set 0 rfl zm zb⟩; clear zm zs zb))
                    (try simp only [Exit.inBlock, Exit.then])
                    refine bodyPost_ret (results_row2c rfl _ _ g2 _ _ _ rfl (HZ.out.at_ 0 rfl) Tryz.underlying72 rfl (by kernel_rfl)) rfl ?_; exact ⟨⟨_, _, _, by rw [HV.out]; rfl⟩, HZ.out.bl⟩
                · obtain rfl : o.n4 = k := (by omega); have hkI : decide ((o.n4 : Int) < (o.n4 : Int)) = false := (by simp); have HV : Sl (r = 0) := ⟨by rw [HE.out, ← HK.out, Nat.sub_self]; rfl⟩; clear HK hkn hk HE
                  go_wp2_with ((with_reducible show wpList _ _ _ _ _ _); first
                    | (refine wpList_store_whole rfl 72 (.tmp 2) (.tmp 131) rfl g2 #[.int .i64 0, .int .i64 0, .int .i64 0] rfl rfl 72 _ (HD.out.at_ 0 rfl) rfl (by kernel_rfl) (by simp [Value.oneCell']) ?_; rintro w9 zm zs zb; have HZ : Sl _ := ⟨HD.out.set 0 rfl zm zb⟩; clear zm zs zb))
                  (try simp only [Exit.inBlock, Exit.then])
                  refine bodyPost_ret (results_row2c rfl _ _ g2 _ _ _ rfl (HZ.out.at_ 0 rfl) Tryz.underlying72 rfl (by kernel_rfl)) rfl ?_; exact ⟨⟨_, _, _, by rw [HV.out]; rfl⟩, HZ.out.bl⟩
end Go.Proofs.YtabkpbbjodfolaaGreatDoor
