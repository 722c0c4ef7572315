/- A ledger of blocks; package spec: Check's closure over a stop's parts. -/
import Derived.Test.YtabkpbbjodfolaaGreatDoorZvG
import Derived.Test.YtabkpbbjodfolaaGreatDoorZvH
namespace Go.Proofs.YtabkpbbjodfolaaGreatDoor
set_option linter.unusedSimpArgs false
open Go.RowKit
set_option linter.unusedVariables false
theorem results_row2c {P : Program} {fn : Func} {p u : Tmp} {ty : TypeId} (h : fn.results = #[.cell p ty, .tmp u]) (tmps : Array Value) (w : World) (g : Nat) (t : TypeId) (cs : Array Value) (d : TypeDesc)
    (hp : tmps.getD p undef = .pointer (some ⟨g, 0, none⟩)) (hg : Blk w g t cs)
    (hu : P.underlying ty = some d) (hd : (match d with | .struct _ | .array _ _ => true | _ => false) = true) (hi : (P.info? ty).map (·.size) = some cs.size) :
    (results fn tmps).run P w = .ok (.tuple #[.agg cs, tmps.getD u undef]) w := by
  rw [results_cell_tmp h, hp]; simp [asAddr, run_loadVar_row w g t ty cs (0, 0) d hg hu hd hi, Result.andThen]
structure Led (w W : World) (l : List (Nat × TypeId × Array Value)) : Prop where
  bl : Below w.heap.size w W
  all : ∀ p ∈ l, Blk W p.1 p.2.1 p.2.2
  ge : ∀ p ∈ l, w.heap.size ≤ p.1
theorem Led.nil (w : World) : Led w w [] := ⟨Below.refl _ _, fun p hp => (by cases hp), fun p hp => (by cases hp)⟩
theorem Led.at_ {w W : World} {l : List (Nat × TypeId × Array Value)} (h : Led w W l) (k : Nat) {g : Nat} {t : TypeId} {cs : Array Value} (hk : l[k]? = some (g, t, cs)) : Blk W g t cs := h.all _ (List.mem_of_getElem? hk)
theorem Led.below {w W W' : World} {l : List (Nat × TypeId × Array Value)} (h : Led w W l) (hb : Below W.heap.size W W') : Led w W' l :=
  ⟨h.bl.trans (hb.mono h.bl.size), fun p hp => (h.all p hp).below hb (h.all p hp).lt, h.ge⟩
theorem Led.mv {w W W' : World} {g : Nat} {l : List (Nat × TypeId × Array Value)} (h : Led w W l) (hm : Mv g W W') (hg : w.heap.size ≤ g) (hne : ∀ p ∈ l, p.1 ≠ g) : Led w W' l :=
  ⟨below_mv h.bl hm hg h.bl.size, fun p hp => (h.all p hp).mv hm (hne p hp), h.ge⟩
theorem Led.new {w W W' : World} {g : Nat} {t : TypeId} {cs : Array Value} {l : List (Nat × TypeId × Array Value)} (h : Led w W l) (zg : g = W.heap.size) (zm : Mv W.heap.size W W') (zb : Blk W' g t cs) : Led w W' ((g, t, cs) :: l) := by
  have hs := h.bl.size; have h1 : Led w W' l := h.mv zm hs (fun p hp => by have := (h.all p hp).lt; omega); refine ⟨h1.bl, fun p hp => ?_, fun p hp => ?_⟩
  · rcases List.mem_cons.1 hp with rfl | hp
    · exact zb
    · exact h1.all p hp
  · rcases List.mem_cons.1 hp with rfl | hp
    · show w.heap.size ≤ g; omega
    · exact h1.ge p hp
theorem Led.drop {w W : World} {p : Nat × TypeId × Array Value} {l : List (Nat × TypeId × Array Value)} (h : Led w W (p :: l)) : Led w W l :=
  ⟨h.bl, fun q hq => h.all q (List.mem_cons_of_mem _ hq), fun q hq => h.ge q (List.mem_cons_of_mem _ hq)⟩
structure CHP (w W : World) (o : SpO) (g b gs gr gc : Nat) (l : Keys) : Prop where
  ck : CK W g b o l
  ld : Led w W [(gs, 33, #[.slice o.A1 o.n1 o.c1, .slice o.A2 o.n2 o.c2, .slice o.A3 o.n3 o.c3, .slice o.A4 o.n4 o.c4]), (gr, 72, #[.int .i64 0, .int .i64 0, .int .i64 0]), (gc, 161, #[.pointer (some ⟨g, 0, none⟩)])]
  nb : w.heap.size ≤ b ∧ gs ≠ b ∧ gr ≠ b ∧ gc ≠ b
theorem CHP.step {w W W' : World} {o : SpO} {g b gs gr gc : Nat} {l l' : Keys} (h : CHP w W o g b gs gr gc l) (hc : CK W' g b o l') (hm : Mv b W W') : CHP w W' o g b gs gr gc l' :=
  ⟨hc, h.ld.mv hm h.nb.1 (fun p hp => by
    simp only [List.mem_cons, List.not_mem_nil, or_false] at hp; rcases hp with rfl | rfl | rfl
    · exact h.nb.2.1
    · exact h.nb.2.2.1
    · exact h.nb.2.2.2), h.nb⟩
theorem CHP.below {w W W' : World} {o : SpO} {g b gs gr gc : Nat} {l : Keys} (h : CHP w W o g b gs gr gc l) (hb : Below W.heap.size W W') : CHP w W' o g b gs gr gc l := ⟨h.ck.below hb, h.ld.below hb, h.nb⟩
theorem CHP.alloc {w W : World} {o : SpO} {g b gs gr gc : Nat} {l : Keys} (h : CHP w W o g b gs gr gc l) (ob : Obj) : CHP w (W.alloc ob) o g b gs gr gc l := h.below ((Below.refl _ _).alloc (Nat.le_refl _) ob)
set_option maxHeartbeats 3200000 in
set_option maxRecDepth 100000 in
theorem chk1_any {w0 w : World} {g b gs gr gc : Nat} {o : SpO} {l : Keys} (h : CHP w0 w o g b gs gr gc l) (hD : RowG w o.A1 o.n1 3 DvV.cells o.ds) (hR : RowG w o.A2 o.n2 6 RnV.cells o.rs) (hrb : ∀ r ∈ o.rs, (0 ≤ r.lo ∧ r.lo ≤ 1000) ∧ (0 ≤ r.ct ∧ r.ct ≤ 1000)) (hn : o.n2 ≤ 1000)
    (hdb : ∀ d ∈ o.ds, 0 ≤ d.lo ∧ d.hi ≤ 1000) (gx : Nat) (s0 s2 s3 s4 : Value) (dv : Nat) (hdv : dv < o.n1) (hn1 : o.n1 ≤ 1000) (hX : Blk w gx 90 #[s0, .int .i64 (dv : Int), s2, s3, s4]) (p : PrV) :
    Calls Tryz.prog 101 #[.agg #[.int .i64 p.rk, .int .i64 p.sh, .int .i64 p.lo, .int .i64 p.hi], .pointer (some ⟨gc, 0, none⟩), .pointer (some ⟨gs, 0, none⟩), .pointer (some ⟨gx, 0, none⟩)] w fun e w' =>
      e = .returned (.int .i64 (prtE o.rs (o.ds[dv]?.getD dv0) p)) ∧ Below w.heap.size w w' := by
  obtain ⟨gb, oo, d, hA, hgb, hx, hra⟩ := hD.at_ (by omega) hdv; have HA : Sl _ := ⟨hA⟩; have hdd := hdb d (List.mem_of_getElem? hx); rw [hx, Option.getD_some]; have hb1 := (Below.refl w.heap.size w).alloc (Nat.le_refl _) (.cells #[.int .i64 p.rk, .int .i64 p.sh, .int .i64 p.lo, .int .i64 p.hi] 102); have P1 := Blk.new w 102 #[.int .i64 p.rk, .int .i64 p.sh, .int .i64 p.lo, .int .i64 p.hi]; have hC := h.below hb1; have HP : Sl _ := ⟨P1⟩; have HX : Sl _ := ⟨hX.below hb1 hX.lt⟩; have HC : Sl _ := ⟨hC⟩; have HRA : Sl (∀ j v, d.cells[j]? = some v → (w.alloc (.cells #[.int .i64 p.rk, .int .i64 p.sh, .int .i64 p.lo, .int .i64 p.hi] 102)).cell? ⟨gb, oo + dv * 3 + j, none⟩ = some v) := ⟨fun j v hv => (hb1.cell (p := ⟨gb, oo + dv * 3 + j, none⟩) hgb).trans (hra j v hv)⟩; have HGB : Sl (gb < (w.alloc (.cells #[.int .i64 p.rk, .int .i64 p.sh, .int .i64 p.lo, .int .i64 p.hi] 102)).heap.size) := ⟨by have := hb1.size; omega⟩; have HR2 := hR.below hb1; have HQ : Sl _ := ⟨fun (W : World) (hW : Below (w.alloc (.cells #[.int .i64 p.rk, .int .i64 p.sh, .int .i64 p.lo, .int .i64 p.hi] 102)).heap.size (w.alloc (.cells #[.int .i64 p.rk, .int .i64 p.sh, .int .i64 p.lo, .int .i64 p.hi] 102)) W) => part_any (hC.ck.below hW) (HR2.below hW) hrb hn d p hdd⟩; have HB1 : Sl _ := ⟨hb1⟩; have hdn : (0 : Int) ≤ (dv : Int) ∧ (dv : Int) < (o.n1 : Int) := (by omega); have HDN : Sl _ := ⟨hdn⟩; have HDV : Sl _ := ⟨hdv⟩; obtain ⟨z, hz⟩ : ∃ z, prtE o.rs d p = z := ⟨_, rfl⟩; rw [hz] at HQ ⊢; clear hz hx hra hdd hb1 P1 hC HR2 hdn hdv h hD hR hrb hn hdb hX hA hgb; go_enter Tryz.func101, Tryz.ntmps101; go_wp2_with fail; generalize w.alloc (.cells #[.int .i64 p.rk, .int .i64 p.sh, .int .i64 p.lo, .int .i64 p.hi] 102) = wa at *
  have hbd : Below wa.heap.size wa wa.drew := below_drewN (Below.refl _ _) 1; have HBD : Sl _ := ⟨hbd⟩; clear hbd; have hk1 := HDN.out.1; have hk2 := HDN.out.2; have hk3 := HDV.out; have hm := HBD.out; refine wp_region_held_drew (S := fun w' => Below wa.heap.size wa w') (by kernel_rfl) hm (fun hHeld => ?_); clear hm
  refine wpAnyH_cell 0 (v := .pointer (some ⟨g, 0, none⟩)) rfl rfl (fun w' h => by
    have hc := ((HC.out.below h).ld.at_ 2 rfl).cell 0
    go_simp) (by kernel_rfl) (by kernel_rfl) (by kernel_rfl) (fun _ _ _ h => h) (by assumption) ?_
  simp only [Act.put, sS0, sS1, sS2]; refine wpAnyH_pure 1 (v := .pointer (some ⟨gs, 0, none⟩)) rfl (by kernel_rfl) (by kernel_rfl) (by kernel_rfl) (fun _ _ _ h => h) rfl (fun _ => by go_simp) (by assumption) ?_; simp only [Act.put, sS0, sS1, sS2]
  refine wpAnyH_cell 2 (v := .slice (some ⟨gb, oo, none⟩) o.n1 o.c1) rfl rfl (fun w' h => by
    have hc := (((HC.out.below h).ld.at_ 0 rfl).cell 0).trans (show _ = some (.slice (some ⟨gb, oo, none⟩) o.n1 o.c1) by rw [← HA.out]; rfl)
    go_simp) (by kernel_rfl) (by kernel_rfl) (by kernel_rfl) (fun _ _ _ h => h) (by assumption) ?_
  simp only [Act.put, sS0, sS1, sS2]; refine wpAnyH_pure 3 (v := .pointer (some ⟨gx, 1, none⟩)) rfl (by kernel_rfl) (by kernel_rfl) (by kernel_rfl) (fun _ _ _ h => h) rfl (fun _ => by go_simp) (by assumption) ?_; simp only [Act.put, sS0, sS1, sS2]
  refine wpAnyH_cell 4 (v := .int .i64 (dv : Int)) rfl rfl (fun w' h => by
    have hc := (HX.out.below h HX.out.lt).cell 1
    go_simp) (by kernel_rfl) (by kernel_rfl) (by kernel_rfl) (fun _ _ _ h => h) (by assumption) ?_
  simp only [Act.put, sS0, sS1, sS2]; refine wpAnyH_pure 5 (v := .pointer (some ⟨gb, oo + dv * 3, none⟩)) rfl (by kernel_rfl) (by kernel_rfl) (by kernel_rfl) (fun _ _ _ h => h) rfl (fun _ => by go_simp) (by assumption) ?_; simp only [Act.put, sS0, sS1, sS2]
  refine wpAnyH_load 6 98 (.tmp 11) rfl rfl rfl gb (oo + dv * 3) rfl #[.string d.nm, .int .i64 d.lo, .int .i64 d.hi] _ (fun w' h => fun j v hv => by
    have hc := HRA.out j v hv
    exact (h.cell (p := ⟨gb, oo + dv * 3 + j, none⟩) HGB.out).trans hc) Tryz.underlying98 rfl (by kernel_rfl) (by kernel_rfl) (by kernel_rfl) (by kernel_rfl) (fun _ _ _ h => h) (by assumption) ?_
  simp only [Act.put, sS0, sS1, sS2]
  refine wpAnyH_load 7 102 (.tmp 4) rfl rfl rfl w.heap.size 0 rfl #[.int .i64 p.rk, .int .i64 p.sh, .int .i64 p.lo, .int .i64 p.hi] _ (fun w' h => by
    have := World.rangeAt_of_block (HP.out.below h HP.out.lt) 0 4
    exact this) Tryz.underlying102 rfl (by kernel_rfl) (by kernel_rfl) (by kernel_rfl) (by kernel_rfl) (fun _ _ _ h => h) (by assumption) ?_
  simp only [Act.put, sS0, sS1, sS2]; refine wpAnyH_one 8 rfl (by kernel_rfl) rfl (fun K hK => ?_); go_simp; go_at_call 102
  (with_reducible refine (HQ.out wa.drew HBD.out).mono ?_)
  rintro e4 w4 ⟨rfl, hb4⟩; have hb5 : Below wa.heap.size wa w4 := HBD.out.trans (hb4.mono HBD.out.size); have HB3 : Sl _ := ⟨hb5⟩; clear hb4 hb5; refine hK.out _ _ HB3.out (fun hHeld => ?_); clear hK K
  (try simp only [Act.put, sS0, sS1, sS2])
  refine wpAnyH_pure 9 (v := .int .i64 z) rfl (by kernel_rfl) (by kernel_rfl) (by kernel_rfl) (fun _ _ _ h => h) rfl (fun _ => rfl) (by assumption) ?_; simp only [Act.put, sS0, sS1, sS2]; refine wpAnyH_done (by kernel_rfl) ?_ _; clear hk1 hk2 hk3 hHeld; go_wp2_with fail; go_ret; exact ⟨rfl, HB1.out.trans (HB3.out.mono HB1.out.size)⟩
end Go.Proofs.YtabkpbbjodfolaaGreatDoor
