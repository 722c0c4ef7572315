/- Regions that draw in which a variable is made beside calls (the laws of TrB, and a store of a whole value, without a package). -/
import Derived.Test.YtabkpbbjodfolaaGreatDoorZvE
import Derived.Test.YtabkpbbjodfolaaGreatDoorZvF
namespace Go.Proofs.YtabkpbbjodfolaaGreatDoor
set_option linter.unusedSimpArgs false
open Go.RowKit
set_option linter.unusedVariables false
section
variable {P : Program} {ops : Array Oper} {Q : Exit → Act → World → Prop} {md : Region.Mode} {S : World → Prop}
theorem wpAnyH_twom (i j : Nat) {oi oj : Oper} {fuel : Nat} {listed : Array Bool} {a : Act} {w : World} (hi0 : ops.toList[i]? = some oi) (hj0 : ops.toList[j]? = some oj) (hr : Region.ready md ops listed = [i, j]) (hgi : oi.guard = none) (hgj : oj.guard = none)
    (h1 : ∀ K' : Act → World → Prop, Shut (∀ a w, S w → (S w → wpAnyH P md ops Q S fuel (listed.setIfInBounds i true) a w) → K' a w) → Oper.wp P oi a w K' Q)
    (h2 : ∀ K' : Act → World → Prop, Shut (∀ a w, S w → (S w → wpAnyH P md ops Q S fuel (listed.setIfInBounds j true) a w) → K' a w) → Oper.wp P oj a w K' Q) : wpAnyH P md ops Q S (fuel + 1) listed a w :=
  have hi : ops[i]? = some oi := (by rw [← Array.getElem?_toList]; exact hi0); have hj : ops[j]? = some oj := (by rw [← Array.getElem?_toList]; exact hj0)
  wpAnyH_ready hr (by simp) (AllReadyH.cons hi (fun K' hK => by
    have hw : Region.wanted oi (yielded ops a.tmps) = true := (by simp [Region.wanted, hgi]); rw [if_pos hw]
    exact h1 K' hK) (AllReadyH.cons hj (fun K' hK => by
    have hw : Region.wanted oj (yielded ops a.tmps) = true := (by simp [Region.wanted, hgj]); rw [if_pos hw]
    exact h2 K' hK) AllReadyH.nil))
end
section
variable {P : Program} {op : Oper} {a : Act} {w : World} {K : Act → World → Prop} {Q : Exit → Act → World → Prop}
theorem wp_alloc_newm (ty : TypeId) (ho : op.op = .alloc ty) (cells : Array Value)
    (hz : ∀ w, (Instr.alloc ty true (.tuple #[])).run P w = .ok (.pointer (some ⟨w.heap.size, 0, none⟩)) (w.alloc (.cells cells ty)))
    (h : ∀ w' g, g = w.heap.size → Below w.heap.size w w' → w'.heap.size = g + 1 → Blk w' g ty cells → K (a.put op.dst (.pointer (some ⟨g, 0, none⟩))) w') : op.wp P a w K Q := by
  have hrun : (execOp a.eval op).run P w = .ok (.value (.pointer (some ⟨w.heap.size, 0, none⟩))) (w.alloc (.cells cells ty)) := by
    unfold execOp; simp only [ho, Sem.run_bind, hz, Result.andThen_ok, Sem.run_pure]
  unfold Oper.wp; rw [hrun, Oper.upon_value]; exact h _ _ rfl ((Below.refl _ _).alloc (Nat.le_refl _) _) (by simp) (Blk.new w ty cells)
end
section
variable {P : Program} {op : Oper} {a : Act} {w : World} {K : Act → World → Prop} {Q : Exit → Act → World → Prop}
theorem wp_store_partm (ty : TypeId) (x y : Operand) (ho : op.op = .store ty x y)
    (g o : Nat) (cells : Array Value) (hx : a.eval x = .pointer (some ⟨g, o, none⟩)) (hy : a.eval y = .agg cells)
    (t : TypeId) (cs cs' : Array Value) (hB : Blk w g t cs) (hn : o + cells.size ≤ cs.size) (hp : putA cs o cells.toList = cs')
    (hi : (P.info? ty).map (·.size) = some cells.size) (h1 : cells.all (·.oneCell') = true)
    (h : ∀ w', Mv g w w' → w'.heap.size = w.heap.size → Blk w' g t cs' → K (a.put op.dst undef) w') : op.wp P a w K Q := by
  refine wp_store_mid ty x y ho g o cells hx hy (hB.there o _ hn) hi h1 (h _ (Mv.setCells _ _ _ _) (setCells_size _ _ _ _) ?_); rw [← hp]; exact Blk.setCells (w := w) _ _ _ _ hB
end
end Go.Proofs.YtabkpbbjodfolaaGreatDoor
namespace Go.Proofs.YtabkpbbjodfolaaGreatDoor
set_option linter.unusedSimpArgs false
open Go.RowKit
set_option linter.unusedVariables false
theorem alloc_rank (w : World) : (Instr.alloc 100 true (.tuple #[])).run Tryz.prog w = .ok (.pointer (some ⟨w.heap.size, 0, none⟩)) (w.alloc (.cells #[.string ⟨#[]⟩, .int .i64 0, .int .i64 0, .int .i64 0, .int .i64 0, .int .i64 0] 100)) := by kernel_rfl
set_option maxHeartbeats 3200000 in
set_option maxRecDepth 100000 in
theorem part_any {w : World} {g b : Nat} {o : SpO} {l : Keys} (h : CK w g b o l) (hR : RowG w o.A2 o.n2 6 RnV.cells o.rs) (hrb : ∀ r ∈ o.rs, (0 ≤ r.lo ∧ r.lo ≤ 1000) ∧ (0 ≤ r.ct ∧ r.ct ≤ 1000)) (hn : o.n2 ≤ 1000) (d : DvV) (p : PrV) (hd : 0 ≤ d.lo ∧ d.hi ≤ 1000) :
    Calls Tryz.prog 102 #[.pointer (some ⟨g, 0, none⟩), .agg #[.string d.nm, .int .i64 d.lo, .int .i64 d.hi], .agg #[.int .i64 p.rk, .int .i64 p.sh, .int .i64 p.lo, .int .i64 p.hi]] w fun e w' =>
      e = .returned (.int .i64 (prtE o.rs d p)) ∧ Below w.heap.size w w' := by
  have HE : Sl (prtE o.rs d p = if wiB p.rk 0 ((o.rs.length : Int) - 1) = false then 4 else if wiB p.lo d.lo d.hi && (wiB p.hi p.lo d.hi && wiB p.sh (-96) 96) then
    (if p.lo + p.sh < (o.rs[p.rk.toNat]?.getD rn0).lo ∨ (o.rs[p.rk.toNat]?.getD rn0).lo + (o.rs[p.rk.toNat]?.getD rn0).ct ≤ p.hi + p.sh then 4 else 0) else 7) := ⟨rfl⟩
  rw [hR.len] at HE; obtain ⟨r, hr⟩ : ∃ r, prtE o.rs d p = r := ⟨_, rfl⟩; rw [hr] at HE ⊢; clear hr; obtain ⟨dn, dl, dh⟩ := d; obtain ⟨rk, sh, lo, hi⟩ := p; simp only [] at HE hd ⊢; have hb1 := (Below.refl w.heap.size w).alloc (Nat.le_refl _) (.cells #[.string dn, .int .i64 dl, .int .i64 dh] 98); have hb2 := hb1.alloc hb1.size (.cells #[.int .i64 rk, .int .i64 sh, .int .i64 lo, .int .i64 hi] 102); have D1 := (Blk.new w 98 #[.string dn, .int .i64 dl, .int .i64 dh]).alloc (.cells #[.int .i64 rk, .int .i64 sh, .int .i64 lo, .int .i64 hi] 102); have P1 := Blk.new (w.alloc (.cells #[.string dn, .int .i64 dl, .int .i64 dh] 98)) 102 #[.int .i64 rk, .int .i64 sh, .int .i64 lo, .int .i64 hi]; have hsz : (w.alloc (.cells #[.string dn, .int .i64 dl, .int .i64 dh] 98)).heap.size = w.heap.size + 1 := (by simp); rw [hsz] at P1; have hC := h.below hb2; have hR2 := hR.below hb2; have cg : ((w.alloc (.cells #[.string dn, .int .i64 dl, .int .i64 dh] 98)).alloc (.cells #[.int .i64 rk, .int .i64 sh, .int .i64 lo, .int .i64 hi] 102)).cell? ⟨g, 1, none⟩ = some (.slice o.A2 o.n2 o.c2) := hC.blk.cell 1; have p0 : ((w.alloc (.cells #[.string dn, .int .i64 dl, .int .i64 dh] 98)).alloc (.cells #[.int .i64 rk, .int .i64 sh, .int .i64 lo, .int .i64 hi] 102)).cell? ⟨w.heap.size + 1, 0, none⟩ = some (.int .i64 rk) := P1.cell 0; have HB2 : Sl _ := ⟨hb2⟩; have HD1 : Sl _ := ⟨D1⟩; have HP1 : Sl _ := ⟨P1⟩; have HC : Sl _ := ⟨hC⟩; have HR : Sl _ := ⟨hR2⟩; have HRB : Sl _ := ⟨hrb⟩; have HND : Sl _ := ⟨hn⟩; clear hb1 hb2 D1 P1 hsz hC hR2 h hR hrb hn; obtain ⟨b0, hb0⟩ : ∃ b0, wiB rk 0 ((o.n2 : Int) - 1) = b0 := ⟨_, rfl⟩; rw [hb0] at HE; have HRK : Sl (b0 = true → 0 ≤ rk ∧ rk < (o.n2 : Int)) := ⟨fun h => by rw [← hb0] at h; unfold wiB at h; simp at h; omega⟩; go_enter Tryz.func102, Tryz.ntmps102; go_wp2_with fail; generalize (w.alloc (.cells #[.string dn, .int .i64 dl, .int .i64 dh] 98)).alloc (.cells #[.int .i64 rk, .int .i64 sh, .int .i64 lo, .int .i64 hi] 102) = wa at *
  have VA : Sl (∀ z, Calls Tryz.prog 138 #[.int .i64 rk, .int .i64 0, .int .i64 ((o.n2 : Int) - 1)] (wa.drewN z) fun e w'' => e = .returned (.bool b0) ∧ ∃ k, w'' = wa.drewN k) := ⟨fun z => (wi_any rk 0 ((o.n2 : Int) - 1) (wa.drewN z)).mono fun e w'' h => ⟨by rw [h.1, hb0], z, h.2⟩⟩; have hw1 : IntKind.i64.wrap ((o.n2 : Int) - 1) = (o.n2 : Int) - 1 := (by have := HND.out; rw [IntKind.wrap_i64]; omega); clear hb0
  go_quiet ((go_at_call 138; (with_reducible exact VA.out _)))
  clear VA hw1; have hq : Below wa.heap.size wa (wa.drewN nq) := below_drewN (Below.refl _ _) nq; replace HC : Sl _ := ⟨HC.out.below hq⟩; replace HR : Sl _ := ⟨HR.out.below hq⟩; replace HD1 : Sl _ := ⟨HD1.out.below hq HD1.out.lt⟩; replace HP1 : Sl _ := ⟨HP1.out.below hq HP1.out.lt⟩; replace HB2 : Sl _ := ⟨below_drewN HB2.out nq⟩; clear hq cg p0; generalize wa.drewN nq = wb at *
  cases b0 with
  | false =>
    go_wp2_with fail; go_ret; exact ⟨by rw [HE.out]; rfl, HB2.out⟩
  | true =>
    obtain ⟨k1, k2⟩ := HRK.out rfl; obtain ⟨k, rfl⟩ := Int.eq_ofNat_of_zero_le k1; obtain ⟨gb, oo, x, hA, hgb, hx, hra⟩ := HR.out.at_ (by omega) (i := k) (by omega); have hxb := HRB.out x (List.mem_of_getElem? hx); rw [show ((k : Int)).toNat = k from rfl, hx, Option.getD_some] at HE; replace HE : Sl (r = if wiB lo dl dh && (wiB hi lo dh && wiB sh (-96) 96) then (if lo + sh < x.lo ∨ x.lo + x.ct ≤ hi + sh then 4 else 0) else 7) := ⟨HE.out⟩; have HX : Sl _ := ⟨hxb⟩; have HRA : Sl _ := ⟨hra⟩; have HK : Sl (k < o.n2) := ⟨by omega⟩; have HDL : Sl _ := ⟨hd⟩; clear hx hxb hra k1 k2 hd HRK HRB; obtain ⟨b1, hb1⟩ : ∃ b1, wiB lo dl dh = b1 := ⟨_, rfl⟩; obtain ⟨b2, hb2⟩ : ∃ b2, wiB hi lo dh = b2 := ⟨_, rfl⟩; obtain ⟨b3, hb3⟩ : ∃ b3, wiB sh (-96) 96 = b3 := ⟨_, rfl⟩; rw [hb1, hb2, hb3] at HE; have HQ : Sl _ := ⟨And.intro hb1 (And.intro hb2 hb3)⟩
    have HBD : Sl (b1 = true → b2 = true → b3 = true → (0 ≤ lo ∧ hi ≤ 1000 ∧ lo ≤ hi) ∧ -96 ≤ sh ∧ sh ≤ 96) := ⟨fun h1 h2 h3 => by
      rw [h1] at hb1; rw [h2] at hb2; rw [h3] at hb3; unfold wiB at hb1 hb2 hb3; simp at hb1 hb2 hb3; have := HDL.out
      omega⟩
    clear hb1 hb2 hb3; have p0 := HP1.out.cell 0; have p1 := HP1.out.cell 1; have p2 := HP1.out.cell 2; have p3 := HP1.out.cell 3; have d1 := HD1.out.cell 1; have d2 := HD1.out.cell 2; simp at p0 p1 p2 p3 d1 d2; go_wp2_with fail; refine (wi_any lo dl dh wb).mono ?_; rintro e w2 ⟨rfl, hw2⟩; rw [hw2]; clear hw2 w2; rw [HQ.out.1]
    cases b1 with
    | false =>
      go_wp2_with fail; go_ret; exact ⟨by rw [HE.out]; rfl, HB2.out⟩
    | true =>
      go_wp2_with fail; refine (wi_any hi lo dh _).mono ?_; rintro e w2 ⟨rfl, hw2⟩; rw [hw2]; clear hw2 w2; rw [HQ.out.2.1]
      cases b2 with
      | false =>
        go_wp2_with fail; go_ret; exact ⟨by rw [HE.out]; rfl, HB2.out⟩
      | true =>
        go_wp2_with fail; refine (wi_any sh (-96) 96 _).mono ?_; rintro e w2 ⟨rfl, hw2⟩; rw [hw2]; clear hw2 w2; rw [HQ.out.2.2]
        cases b3 with
        | false =>
          go_wp2_with fail; go_ret; exact ⟨by rw [HE.out]; rfl, HB2.out⟩
        | true =>
          go_wp2_with fail; obtain ⟨⟨s1, s2, s3⟩, s4, s5⟩ := HBD.out (by simp) (by simp) (by simp); have HS : Sl _ := ⟨And.intro s1 (And.intro s2 (And.intro s3 (And.intro s4 s5)))⟩; have HK0 : Sl ((0 : Int) ≤ (k : Int) ∧ (k : Int) < (o.n2 : Int)) := ⟨by have := HK.out; omega⟩; clear p1 p2 p3 d1 d2 s1 s2 s3 s4 s5 p0; have hk1 := HK0.out.1; have hk2 := HK0.out.2; have hk3 := HK.out; have hbd : Below wb.heap.size wb wb.drew := below_drewN (Below.refl _ _) 1; have HBD2 : Sl _ := ⟨hbd⟩; clear hbd; have hm := HBD2.out; refine wp_region_held_drew (S := fun w' => Below wb.heap.size wb w') (by kernel_rfl) hm (fun hHeld => ?_); clear hm; refine wpAnyH_pure 0 (v := .pointer (some ⟨g, 0, none⟩)) rfl (by kernel_rfl) (by kernel_rfl) (by kernel_rfl) (fun _ _ _ h => h) rfl (fun _ => rfl) (by assumption) ?_; simp only [Act.put, sS0, sS1, sS2]; refine wpAnyH_pure 1 (v := .pointer (some ⟨g, 0, none⟩)) rfl (by kernel_rfl) (by kernel_rfl) (by kernel_rfl) (fun _ _ _ h => h) rfl (fun _ => by go_simp) (by assumption) ?_; simp only [Act.put, sS0, sS1, sS2]; refine wpAnyH_pure 2 (v := .pointer (some ⟨g, 0, none⟩)) rfl (by kernel_rfl) (by kernel_rfl) (by kernel_rfl) (fun _ _ _ h => h) rfl (fun _ => by go_simp) (by assumption) ?_; simp only [Act.put, sS0, sS1, sS2]; refine wpAnyH_pure 3 (v := .pointer (some ⟨g, 1, none⟩)) rfl (by kernel_rfl) (by kernel_rfl) (by kernel_rfl) (fun _ _ _ h => h) rfl (fun _ => by go_simp) (by assumption) ?_; simp only [Act.put, sS0, sS1, sS2]
          refine wpAnyH_cell 4 (v := .slice (some ⟨gb, oo, none⟩) o.n2 o.c2) rfl rfl (fun w' h => by
            have hc := ((HC.out.below h).blk.cell 1).trans (show _ = some (.slice (some ⟨gb, oo, none⟩) o.n2 o.c2) by rw [← hA]; rfl)
            go_simp) (by kernel_rfl) (by kernel_rfl) (by kernel_rfl) (fun _ _ _ h => h) (by assumption) ?_
          simp only [Act.put, sS0, sS1, sS2]; refine wpAnyH_pure 5 (v := .pointer (some ⟨w.heap.size + 1, 0, none⟩)) rfl (by kernel_rfl) (by kernel_rfl) (by kernel_rfl) (fun _ _ _ h => h) rfl (fun _ => by go_simp) (by assumption) ?_; simp only [Act.put, sS0, sS1, sS2]
          refine wpAnyH_cell 6 (v := .int .i64 (k : Int)) rfl rfl (fun w' h => by
            have hc := (HP1.out.below h HP1.out.lt).cell 0
            go_simp) (by kernel_rfl) (by kernel_rfl) (by kernel_rfl) (fun _ _ _ h => h) (by assumption) ?_
          simp only [Act.put, sS0, sS1, sS2]; refine wpAnyH_pure 7 (v := .pointer (some ⟨gb, oo + k * 6, none⟩)) rfl (by kernel_rfl) (by kernel_rfl) (by kernel_rfl) (fun _ _ _ h => h) rfl (fun _ => by go_simp) (by assumption) ?_; simp only [Act.put, sS0, sS1, sS2]
          refine wpAnyH_load 8 100 (.tmp 50) rfl rfl rfl gb (oo + k * 6) rfl #[.string x.nm, .int .i64 x.kd, .int .i64 x.fn, .int .i64 x.fd, .int .i64 x.lo, .int .i64 x.ct] _ (fun w' h => fun j v hv => by
            have hc := HRA.out j v hv
            exact (h.cell (p := ⟨gb, oo + k * 6 + j, none⟩) hgb).trans hc) Tryz.underlying100 rfl (by kernel_rfl) (by kernel_rfl) (by kernel_rfl) (by kernel_rfl) (fun _ _ _ h => h) (by assumption) ?_
          simp only [Act.put, sS0, sS1, sS2]; refine wpAnyH_one 9 rfl (by kernel_rfl) rfl (fun K hK => ?_); refine wp_alloc_newm 100 rfl _ alloc_rank ?_; rintro w5 gn zg zm zs zb; have hm5 : Below wb.heap.size wb w5 := HBD2.out.trans (zm.mono HBD2.out.size); have HM5 : Sl _ := ⟨hm5⟩; have GE : Sl (wb.heap.size ≤ gn) := ⟨by rw [zg]; exact Nat.le_refl _⟩; have NB : Sl _ := ⟨zb⟩; refine hK.out _ _ hm5 (fun hHeld => ?_); clear hK K zm zs zb hm5; simp only [Act.put, sS0, sS1, sS2]; refine wpAnyH_one 10 rfl (by kernel_rfl) rfl (fun K hK => ?_); refine wp_store_partm 100 (.tmp 7) (.tmp 51) rfl gn 0 #[.string x.nm, .int .i64 x.kd, .int .i64 x.fn, .int .i64 x.fd, .int .i64 x.lo, .int .i64 x.ct] rfl rfl 100 _ #[.string x.nm, .int .i64 x.kd, .int .i64 x.fn, .int .i64 x.fd, .int .i64 x.lo, .int .i64 x.ct] NB.out (by simp) (putA_all _ _ rfl) (by kernel_rfl) (by simp [Value.oneCell']) ?_; rintro w6 zm zs zb; have hm6 : Below wb.heap.size wb w6 := below_mv HM5.out zm GE.out HM5.out.size; have HM6 : Sl _ := ⟨hm6⟩; have NB6 : Sl _ := ⟨zb⟩; refine hK.out _ _ hm6 (fun hHeld => ?_); clear hK K zm zs zb hm6 NB; simp only [Act.put, sS0, sS1, sS2]; refine wpAnyH_done (by kernel_rfl) ?_ _; clear hHeld hk1 hk2 hk3 zg; replace HB2 : Sl (Below w.heap.size w w6) := ⟨HB2.out.trans (HM6.out.mono HB2.out.size)⟩; replace HP1 : Sl _ := ⟨HP1.out.below HM6.out HP1.out.lt⟩; have p1 := HP1.out.cell 1; have p2 := HP1.out.cell 2; have p3 := HP1.out.cell 3; have r4 := NB6.out.cell 4; have r5 := NB6.out.cell 5; simp at p1 p2 p3 r4 r5; obtain ⟨s1, s2, s3, s4, s5⟩ := HS.out; obtain ⟨⟨u1, u2⟩, u3, u4⟩ := HX.out; obtain ⟨xl, hxl⟩ : ∃ xl, x.lo = xl := ⟨_, rfl⟩; obtain ⟨xc, hxc⟩ : ∃ xc, x.ct = xc := ⟨_, rfl⟩; rw [hxl] at HE r4 u1 u2; rw [hxc] at HE r5 u3 u4; clear hxl hxc
          by_cases q1 : lo + sh < xl
          · have q1d : decide (lo + sh < xl) = true := decide_eq_true q1; have HR2 : Sl (r = 4) := ⟨by rw [HE.out]; simp [q1]⟩; go_wp2_with fail; go_ret; exact ⟨by rw [HR2.out]; rfl, HB2.out⟩
          · have q1d : decide (lo + sh < xl) = false := decide_eq_false q1
            by_cases q2 : xl + xc ≤ hi + sh
            · have q2d : decide (xl + xc ≤ hi + sh) = true := decide_eq_true q2; have HR2 : Sl (r = 4) := ⟨by rw [HE.out]; simp [q2]⟩; go_wp2_with fail; go_ret; exact ⟨by rw [HR2.out]; rfl, HB2.out⟩
            · have q2d : decide (xl + xc ≤ hi + sh) = false := decide_eq_false q2; have HR2 : Sl (r = 0) := ⟨by rw [HE.out]; simp [q1, q2]⟩; go_wp2_with fail; go_ret; exact ⟨by rw [HR2.out]; rfl, HB2.out⟩
set_option maxHeartbeats 3200000 in
set_option maxRecDepth 100000 in
theorem coupler_any {w : World} {g b : Nat} {o : SpO} {l : Keys} (h : CK w g b o l) (x : CpV) (hn : l.length ≤ 1000000) (hnm : x.nm.size ≤ maxLen) (hnd : o.n1 ≤ 100) :
    Calls Tryz.prog 105 #[.pointer (some ⟨g, 0, none⟩), .agg #[.string x.nm, .int .i64 x.fr, .int .i64 x.tt, .int .i64 x.sh, .int .i64 x.on, .bool x.th]] w fun e w' =>
      e = .returned (.int .i64 (cplE o.n1 l x)) ∧ CK w' g b o (cplL l x) ∧ Mv b w w' := by
  have HE : Sl (cplE o.n1 l x = if nmdE l kCp x.nm = 0 then (if wiB x.fr 0 ((o.n1 : Int) - 1) && wiB x.tt 0 ((o.n1 : Int) - 1) then
    (if ((x.sh == -12) || ((x.sh == 12) || ((x.sh == 0) && (x.fr != x.tt)))) && (wiB x.on 0 2 && !(x.th && (x.on != 0))) then 0 else 2) else 4) else nmdE l kCp x.nm) := ⟨rfl⟩
  have HL : Sl (cplL l x = nmdL l kCp x.nm) := ⟨rfl⟩; rw [HL.out]; obtain ⟨r, hr⟩ : ∃ r, cplE o.n1 l x = r := ⟨_, rfl⟩; rw [hr] at HE ⊢; obtain ⟨nm, fr, tt, sh, on, th⟩ := x; simp only [] at HE HL hnm ⊢; have X0 := Blk.new w 93 #[.string nm, .int .i64 fr, .int .i64 tt, .int .i64 sh, .int .i64 on, .bool th]; have hbl := (Below.refl w.heap.size w).alloc (Nat.le_refl _) (.cells #[.string nm, .int .i64 fr, .int .i64 tt, .int .i64 sh, .int .i64 on, .bool th] 93); have hC := h.alloc (.cells #[.string nm, .int .i64 fr, .int .i64 tt, .int .i64 sh, .int .i64 on, .bool th] 93); have HX : Sl _ := ⟨X0⟩; have HBL : Sl _ := ⟨hbl⟩; have HLT : Sl _ := ⟨h.nm.lt⟩; have HN : Sl _ := ⟨named_all hC kCp nm (by decide) hn hnm⟩; have HND : Sl _ := ⟨hnd⟩; clear X0 hbl hC h hnm hr HL hnd hn; obtain ⟨z, hz⟩ : ∃ z, nmdE l kCp nm = z := ⟨_, rfl⟩; rw [hz] at HE HN; clear hz; unfold kCp at HN ⊢
  by_cases hz0 : z = 0
  · subst hz0; rw [if_pos rfl] at HE; go_enter Tryz.func105, Tryz.ntmps105; go_wp2_with fail; refine HN.out.mono ?_; rintro e w1 ⟨rfl, hC1, hm1⟩; have HC1 : Sl _ := ⟨hC1⟩; have HMM : Sl _ := ⟨Mv.trans (Mv.below HBL.out) hm1⟩; have X1 : Sl (Blk w1 w.heap.size 93 #[.string nm, .int .i64 fr, .int .i64 tt, .int .i64 sh, .int .i64 on, .bool th]) := ⟨HX.out.mv hm1 (by have := HLT.out; omega)⟩; have x1 := X1.out.cell 1; have x2 := X1.out.cell 2; have x3 := X1.out.cell 3; have x4 := X1.out.cell 4; have x5 := X1.out.cell 5; have xd := HC1.out.blk.cell 0; simp at x1 x2 x3 x4 x5 xd; have hw1 : IntKind.i64.wrap ((o.n1 : Int) - 1) = (o.n1 : Int) - 1 := (by have := HND.out; rw [IntKind.wrap_i64]; omega); clear hC1 hm1; obtain ⟨b1, hb1⟩ : ∃ b1, wiB fr 0 ((o.n1 : Int) - 1) = b1 := ⟨_, rfl⟩; obtain ⟨b2, hb2⟩ : ∃ b2, wiB tt 0 ((o.n1 : Int) - 1) = b2 := ⟨_, rfl⟩; obtain ⟨b3, hb3⟩ : ∃ b3, wiB on 0 2 = b3 := ⟨_, rfl⟩; obtain ⟨c1, hc1⟩ : ∃ c1, (sh == -12) = c1 := ⟨_, rfl⟩; obtain ⟨c2, hc2⟩ : ∃ c2, (sh == 12) = c2 := ⟨_, rfl⟩; obtain ⟨c3, hc3⟩ : ∃ c3, (sh == 0) = c3 := ⟨_, rfl⟩; obtain ⟨c4, hc4⟩ : ∃ c4, (fr != tt) = c4 := ⟨_, rfl⟩; obtain ⟨c5, hc5⟩ : ∃ c5, (on != 0) = c5 := ⟨_, rfl⟩; rw [hb1, hb2, hb3, hc1, hc2, hc3, hc4, hc5] at HE; have HQ : Sl _ := ⟨And.intro hb1 (And.intro hb2 hb3)⟩; have HC5 : Sl _ := ⟨And.intro hc1 (And.intro hc2 (And.intro hc3 (And.intro hc4 hc5)))⟩; clear hb1 hb2 hb3 hc1 hc2 hc3 hc4 hc5; go_wp2_with fail; refine (wi_any fr 0 ((o.n1 : Int) - 1) w1).mono ?_; rintro e w2 ⟨rfl, rfl⟩; rw [HQ.out.1]
    cases b1 with
    | false =>
      go_wp2_with fail; go_ret; exact ⟨by rw [HE.out]; rfl, HC1.out, HMM.out⟩
    | true =>
      go_wp2_with fail; refine (wi_any tt 0 ((o.n1 : Int) - 1) _).mono ?_; rintro e w3 ⟨rfl, rfl⟩; rw [HQ.out.2.1]
      cases b2 with
      | false =>
        go_wp2_with fail; go_ret; exact ⟨by rw [HE.out]; rfl, HC1.out, HMM.out⟩
      | true =>
        have hc1 := HC5.out.1
        cases c1 with
        | false =>
          have hc2 := HC5.out.2.1
          cases c2 with
          | false =>
            have hc3 := HC5.out.2.2.1
            cases c3 with
            | false =>
              go_wp2_with fail; go_ret; exact ⟨by rw [HE.out]; rfl, HC1.out, HMM.out⟩
            | true =>
              have hc4 := HC5.out.2.2.2.1
              cases c4 with
              | false =>
                go_wp2_with fail; go_ret; exact ⟨by rw [HE.out]; rfl, HC1.out, HMM.out⟩
              | true =>
                go_wp2_with fail; refine (wi_any on 0 2 _).mono ?_; rintro e w4 ⟨rfl, rfl⟩; rw [HQ.out.2.2]
                cases b3 with
                | false =>
                  go_wp2_with fail; go_ret; exact ⟨by rw [HE.out]; rfl, HC1.out, HMM.out⟩
                | true =>
                  cases th with
                  | false =>
                    go_wp2_with fail; go_ret; exact ⟨by rw [HE.out]; rfl, HC1.out, HMM.out⟩
                  | true =>
                    have hc5 := HC5.out.2.2.2.2
                    cases c5 with
                    | false =>
                      go_wp2_with fail; go_ret; exact ⟨by rw [HE.out]; rfl, HC1.out, HMM.out⟩
                    | true =>
                      go_wp2_with fail; go_ret; exact ⟨by rw [HE.out]; rfl, HC1.out, HMM.out⟩
          | true =>
            go_wp2_with fail; refine (wi_any on 0 2 _).mono ?_; rintro e w4 ⟨rfl, rfl⟩; rw [HQ.out.2.2]
            cases b3 with
            | false =>
              go_wp2_with fail; go_ret; exact ⟨by rw [HE.out]; rfl, HC1.out, HMM.out⟩
            | true =>
              cases th with
              | false =>
                go_wp2_with fail; go_ret; exact ⟨by rw [HE.out]; rfl, HC1.out, HMM.out⟩
              | true =>
                have hc5 := HC5.out.2.2.2.2
                cases c5 with
                | false =>
                  go_wp2_with fail; go_ret; exact ⟨by rw [HE.out]; rfl, HC1.out, HMM.out⟩
                | true =>
                  go_wp2_with fail; go_ret; exact ⟨by rw [HE.out]; rfl, HC1.out, HMM.out⟩
        | true =>
          go_wp2_with fail; refine (wi_any on 0 2 _).mono ?_; rintro e w4 ⟨rfl, rfl⟩; rw [HQ.out.2.2]
          cases b3 with
          | false =>
            go_wp2_with fail; go_ret; exact ⟨by rw [HE.out]; rfl, HC1.out, HMM.out⟩
          | true =>
            cases th with
            | false =>
              go_wp2_with fail; go_ret; exact ⟨by rw [HE.out]; rfl, HC1.out, HMM.out⟩
            | true =>
              have hc5 := HC5.out.2.2.2.2
              cases c5 with
              | false =>
                go_wp2_with fail; go_ret; exact ⟨by rw [HE.out]; rfl, HC1.out, HMM.out⟩
              | true =>
                go_wp2_with fail; go_ret; exact ⟨by rw [HE.out]; rfl, HC1.out, HMM.out⟩
  · rw [if_neg hz0] at HE; have q0 : (z != 0) = true := (by rw [bne_iff_ne]; exact hz0); clear hz0; go_enter Tryz.func105, Tryz.ntmps105; go_wp2_with fail; refine HN.out.mono ?_; rintro e w1 ⟨rfl, hC1, hm1⟩; have HC1 : Sl _ := ⟨hC1⟩; have HM1 : Sl _ := ⟨hm1⟩; clear hC1 hm1; go_wp2_with fail; go_ret; exact ⟨by rw [HE.out]; rfl, HC1.out, Mv.trans (Mv.below HBL.out) HM1.out⟩
end Go.Proofs.YtabkpbbjodfolaaGreatDoor
