/- Package crescendo: copied. (Printed by gencxb.py.) -/
import Derived.Test.YtbaojmfkjpnfhaaGreatDoorCxA
import Derived.Test.YtbaojmfkjpnfhaaGreatDoorShelD
namespace Go.Proofs.YtbaojmfkjpnfhaaGreatDoor
set_option linter.unusedSimpArgs false
open Go.RowKit
set_option linter.unusedVariables false

/-- a row of integers of a call's own -/
def OI (w : World) (base : Nat) (A : Option Addr) (n c : Nat) (l : List Int) : Prop := w.ownsRow base 3 1 (.slice A n c) n (l.map iv)
theorem OI.mono {w : World} {base base' : Nat} {A : Option Addr} {n c : Nat} {l : List Int} (h : OI w base A n c l) (hb : base' ≤ base) : OI w base' A n c l :=
  ⟨h.1, h.2.imp id fun ⟨g, cap, cur, h1, h2, h3⟩ => ⟨g, cap, cur, h1, Nat.le_trans hb h2, h3⟩⟩
theorem OI.len {w : World} {base : Nat} {A : Option Addr} {n c : Nat} {l : List Int} (h : OI w base A n c l) : l.length = n := by
  have := h.1
  simpa using this
theorem OI.ii {w : World} {base : Nat} {A : Option Addr} {n c : Nat} {l : List Int} (h : OI w base A n c l) : II w A n l := ⟨h.len, Reads.of_own h⟩
theorem OI.lt {w : World} {base : Nat} {A : Option Addr} {n c : Nat} {l : List Int} (h : OI w base A n c l) : ∀ k, (Value.slice A n c).ownBlock = some k → base ≤ k ∧ k < w.heap.size := World.ownsRow.lt h
theorem OI.mv {w w' : World} {g base : Nat} {A : Option Addr} {n c : Nat} {l : List Int} (h : OI w base A n c l) (hm : Mv g w w') (hne : ∀ k, (Value.slice A n c).ownBlock = some k → k ≠ g) : OI w' base A n c l := own_mv h hm hne
theorem OI.below {w w' : World} {base : Nat} {A : Option Addr} {n c : Nat} {l : List Int} (h : OI w base A n c l) (hb : Below w.heap.size w w') : OI w' base A n c l :=
  own_mv h (Mv.of_below hb) (fun k hk => by have := (World.ownsRow.lt h k hk).2; omega)
theorem OI.cap {w : World} {base : Nat} {A : Option Addr} {n c : Nat} {l : List Int} (h : OI w base A n c l) : n ≤ c ∧ c ≤ maxLen := by
  rcases h.2 with ⟨h0, _⟩ | ⟨b, cap, cur, e1, _, _, h1, h2, _⟩
  · injection h0 with a b c
    subst b c
    exact ⟨Nat.le_refl _, by decide⟩
  · injection e1 with a b c
    subst c
    exact ⟨h1, h2⟩
theorem cloneII_any (A : Option Addr) (n c : Nat) (l : List Int) (w : World) (h : II w A n l) (hn : n ≤ 1000000) :
    Calls Tryz.prog 75 #[.slice A n c] w fun e w' => (∃ A' c', e = .returned (.slice A' n c') ∧ OI w' w.heap.size A' n c' l) ∧ Below w.heap.size w w' := by
  rcases A with _ | ad
  · have h0 : n = 0 := by
      rcases Nat.eq_zero_or_pos n with h0 | h0
      · exact h0
      · obtain ⟨ad, e, _⟩ := h.2.2 h0
        cases e
    subst h0
    have hl : l = [] := List.eq_nil_of_length_eq_zero h.1
    subst hl
    refine (Tryz.slices_Clone_int_nil 0 c w).mono fun e w' hh => ?_
    obtain ⟨rfl, rfl⟩ := hh
    exact ⟨⟨none, 0, rfl, World.ownsRow_nil _ _ _ _⟩, Below.refl _ _⟩
  · have key : ∀ (P : Value → World → Prop) (e : Ending) (w' : World), (∃ v', e = .returned v' ∧ w'.ownsRow w.heap.size 3 1 v' n (l.map iv) ∧ v' ≠ .slice none 0 0 ∧ Below w.heap.size w w') → (∃ A' c', e = .returned (.slice A' n c') ∧ OI w' w.heap.size A' n c' l) ∧ Below w.heap.size w w' := fun P e w' hh => by
      obtain ⟨v', rfl, h1, h2, h3⟩ := hh
      rcases h1.2 with ⟨rfl, _⟩ | ⟨g, cap, cur, rfl, _⟩
      · exact absurd rfl h2
      · exact ⟨⟨_, _, rfl, h1⟩, h3⟩
    rcases Nat.eq_zero_or_pos n with h0 | h0
    · subst h0
      have hl : l = [] := List.eq_nil_of_length_eq_zero h.1
      subst hl
      exact (Tryz.slices_Clone_int_zero ad c w).mono fun e w' hh => key (fun _ _ => True) e w' hh
    · obtain ⟨b, off, hA⟩ : ∃ b off, ad = ⟨b, off, none⟩ := by
        obtain ⟨ad', e, _, hc⟩ := h.2.2 h0
        injection e with e
        subst e
        obtain ⟨b, off, sp⟩ := ad
        cases sp with
        | none => exact ⟨b, off, rfl⟩
        | some s =>
          have c0 := hc 0 _ (List.getElem?_eq_getElem (by rw [List.length_map, h.1]; exact h0))
          have e : (⟨b, off, some s⟩ : Addr).add 0 = ⟨b, off, some s⟩ := by simp [Addr.add]
          rw [e] at c0
          unfold World.cell? at c0
          split at c0
          · simp at c0
          · cases c0
      subst hA
      have hc := (Tryz.slices_Clone_int b off n c l w (by rw [h.1]; exact Nat.le_refl _) (by omega) (fun j hj => by
        obtain ⟨ad', e, _, hc⟩ := h.cell (j := j) (by rw [← h.1]; exact hj)
        injection e with e
        subst e
        rw [Addr.add_mid] at hc
        rw [hc]
        rfl))
      rw [show l.take n = l by rw [← h.1, List.take_length]] at hc
      exact hc.mono fun e w' hh => key (fun _ _ => True) e w' hh
/-- a registration whose rows are a call's own -/
structure RgO (w : World) (base : Nat) (r : RgV) : Prop where
  s : OI w base r.A r.n r.c r.l
  c : OI w base r.B r.m r.d r.k
  ne : ∀ g, (Value.slice r.A r.n r.c).ownBlock = some g → (Value.slice r.B r.m r.d).ownBlock ≠ some g
theorem RgO.rg {w : World} {base : Nat} {r : RgV} (h : RgO w base r) : RgM w r := ⟨h.s.ii, h.c.ii, h.s.cap, h.c.cap⟩
theorem RgO.below {w w' : World} {base : Nat} {r : RgV} (h : RgO w base r) (hb : Below w.heap.size w w') : RgO w' base r := ⟨h.s.below hb, h.c.below hb, h.ne⟩
theorem results_row1c {P : Program} {fn : Func} {p : Tmp} {ty : TypeId} (h : fn.results = #[.cell p ty]) (tmps : Array Value) (w : World) (g : Nat) (t : TypeId) (cs : Array Value) (d : TypeDesc)
    (hp : tmps.getD p undef = .pointer (some ⟨g, 0, none⟩)) (hg : Blk w g t cs)
    (hu : P.underlying ty = some d) (hd : (match d with | .struct _ | .array _ _ => true | _ => false) = true) (hi : (P.info? ty).map (·.size) = some cs.size) :
    (results fn tmps).run P w = .ok (.agg cs) w := results_cell_row h tmps w g t cs (0, 0) d hp hg hu hd hi
theorem alloc_reg (w : World) : (Instr.alloc 33 true (.tuple #[])).run Tryz.prog w = .ok (.pointer (some ⟨w.heap.size, 0, none⟩)) (w.alloc (.cells #[.slice none 0 0, .slice none 0 0] 33)) := by kernel_rfl
set_option maxHeartbeats 3200000 in
set_option maxRecDepth 100000 in
theorem copied_any (r : RgV) (w : World) (hr : RgM w r) (hn : r.n ≤ 1000000) (hm : r.m ≤ 1000000) : Calls Tryz.prog 48 #[.agg #[.slice r.A r.n r.c, .slice r.B r.m r.d]] w fun e w' =>
      (∃ A c B d, e = .returned (.agg #[.slice A r.n c, .slice B r.m d]) ∧ RgO w' w.heap.size ⟨A, r.n, c, r.l, B, r.m, d, r.k⟩) ∧ Below w.heap.size w w' := by
  have HD : Sl (Led w w []) := ⟨Led.nil w⟩
  have HR : Sl _ := ⟨hr⟩
  have HN : Sl (r.n ≤ 1000000 ∧ r.m ≤ 1000000) := ⟨hn, hm⟩
  clear hr hn hm
  go_enter Tryz.func48, Tryz.ntmps48
  go_upto_region 1 with ((with_reducible show wpList _ _ _ _ _ _); first
    | (refine wpList_box_new 1 rfl rfl 33 (.tmp 0) rfl #[.slice r.A r.n r.c, .slice r.B r.m r.d] rfl (fun _ => by kernel_rfl) ?_; rintro ws gs zg zm zs zb; replace HD : Sl _ := ⟨HD.out.new zg zm zb⟩; have HGS : Sl _ := ⟨And.intro zg zs⟩; clear zg zm zs zb)
    | (refine wpList_alloc_new 2 rfl rfl 33 rfl #[.slice none 0 0, .slice none 0 0] alloc_reg ?_; rintro wr gr zg zm zs zb; replace HD : Sl (Led w wr [(gr, 33, #[.slice none 0 0, .slice none 0 0]), (gs, 33, #[.slice r.A r.n r.c, .slice r.B r.m r.d])]) := ⟨HD.out.new zg zm zb⟩; have HGR : Sl _ := ⟨And.intro zg zs⟩; clear zg zm zs zb))
  have hbd : Below wr.heap.size wr wr.drew := below_drewN (Below.refl _ _) 1
  have HBD : Sl _ := ⟨hbd⟩
  have HC1 : Sl _ := ⟨cloneII_any r.A r.n r.c r.l wr.drew ((HR.out.s.below HD.out.bl).below hbd) HN.out.1⟩
  have HC2 : Sl _ := ⟨fun (W : World) (hW : Below wr.heap.size wr W) => cloneII_any r.B r.m r.d r.k W ((HR.out.c.below HD.out.bl).below hW) HN.out.2⟩
  have HGG : Sl (gs ≠ gr ∧ w.heap.size ≤ gr) := ⟨by have := HGR.out; have := HGS.out; omega⟩
  clear hbd
  have hm := Mv.below (g := gr) HBD.out
  refine wp_region_held_drew (S := fun w' => Mv gr wr w') (by kernel_rfl) hm (fun hHeld => ?_)
  clear hm
  refine wpAnyH_pure 0 (v := .pointer (some ⟨gs, 0, none⟩)) rfl (by kernel_rfl) (by kernel_rfl) (by kernel_rfl) (fun _ _ _ h => h) rfl (fun _ => by go_simp) (by assumption) ?_
  simp only [Act.put, sS0, sS1, sS2]
  refine wpAnyH_cell 1 (v := .slice r.A r.n r.c) rfl rfl (fun w' h => by
    have hc := ((HD.out.at_ 1 rfl).mv h HGG.out.1).cell 0
    go_simp) (by kernel_rfl) (by kernel_rfl) (by kernel_rfl) (fun _ _ _ h => h) (by assumption) ?_
  simp only [Act.put, sS0, sS1, sS2]
  refine wpAnyH_pure 3 (v := .pointer (some ⟨gs, 1, none⟩)) rfl (by kernel_rfl) (by kernel_rfl) (by kernel_rfl) (fun _ _ _ h => h) rfl (fun _ => by go_simp) (by assumption) ?_
  simp only [Act.put, sS0, sS1, sS2]
  refine wpAnyH_cell 4 (v := .slice r.B r.m r.d) rfl rfl (fun w' h => by
    have hc := ((HD.out.at_ 1 rfl).mv h HGG.out.1).cell 1
    go_simp) (by kernel_rfl) (by kernel_rfl) (by kernel_rfl) (fun _ _ _ h => h) (by assumption) ?_
  simp only [Act.put, sS0, sS1, sS2]
  refine wpAnyH_one 2 rfl (by kernel_rfl) rfl (fun K hK => ?_)
  go_simp
  go_at_call 75
  (with_reducible refine (HC1.out).mono ?_)
  rintro e3 w3 ⟨⟨A1, c1, rfl, ho1⟩, hb3⟩
  have hb3 : Below wr.heap.size wr w3 := HBD.out.trans (hb3.mono HBD.out.size)
  have HB3 : Sl _ := ⟨hb3⟩
  have HO1 : Sl _ := ⟨ho1⟩
  clear ho1 hb3
  refine hK.out _ _ (Mv.below HB3.out) (fun hHeld => ?_)
  clear hK K
  (try simp only [Act.put, sS0, sS1, sS2])
  refine wpAnyH_one 5 rfl (by kernel_rfl) rfl (fun K hK => ?_)
  go_simp
  go_at_call 75
  (with_reducible refine (HC2.out _ HB3.out).mono ?_)
  rintro e4 w4 ⟨⟨A2, c2, rfl, ho2⟩, hb4⟩
  have hb5 : Below wr.heap.size wr w4 := HB3.out.trans (hb4.mono HB3.out.size)
  have HB5 : Sl _ := ⟨hb5⟩
  have HO2 : Sl (OI w4 w3.heap.size A2 r.m c2 r.k) := ⟨ho2⟩
  have HO3 : Sl (OI w4 wr.heap.size A1 r.n c1 r.l ∧ ∀ k, (Value.slice A1 r.n c1).ownBlock = some k → k < w3.heap.size) := ⟨HO1.out.below hb4, fun k hk => (HO1.out.lt k hk).2⟩
  clear ho2 hb4 hb5 HO1
  refine hK.out _ _ (Mv.below HB5.out) (fun hHeld => ?_)
  clear hK K
  (try simp only [Act.put, sS0, sS1, sS2])
  refine wpAnyH_pure 6 (v := .agg #[.slice A1 r.n c1, .slice A2 r.m c2]) rfl (by kernel_rfl) (by kernel_rfl) (by kernel_rfl) (fun _ _ _ h => h) rfl (fun _ => by go_simp) (by assumption) ?_
  simp only [Act.put, sS0, sS1, sS2]
  refine wpAnyH_one 7 rfl (by kernel_rfl) rfl (fun K hK => ?_)
  refine wp_store_partm 33 (.tmp 2) (.tmp 9) rfl gr 0 #[.slice A1 r.n c1, .slice A2 r.m c2] rfl rfl 33 _ #[.slice A1 r.n c1, .slice A2 r.m c2] ((HD.out.at_ 0 rfl).below HB5.out (HD.out.at_ 0 rfl).lt) (by simp) (putA_all _ _ rfl) (by kernel_rfl) (by simp [Value.oneCell']) ?_
  rintro w6 zm zs zb
  have HZ : Sl _ := ⟨And.intro zm zb⟩
  refine hK.out _ _ (Mv.trans (Mv.below HB5.out) zm) (fun hHeld => ?_)
  clear hK K zm zs zb
  simp only [Act.put, sS0, sS1, sS2]
  refine wpAnyH_done (by kernel_rfl) ?_ _
  clear hHeld
  go_wp2_with fail
  refine bodyPost_ret (results_row1c rfl _ _ gr _ _ _ rfl HZ.out.2 Tryz.underlying33 rfl (by kernel_rfl)) rfl ?_
  have hlt := (HD.out.at_ 0 rfl).lt
  have hsz := HB5.out.size
  have hs3 := HB3.out.size
  have hww := HD.out.bl.size
  refine ⟨⟨A1, c1, A2, c2, rfl, ⟨?_, ?_, fun g h1 h2 => ?_⟩⟩, below_mv (HD.out.bl.trans (HB5.out.mono hww)) HZ.out.1 HGG.out.2 (by omega)⟩
  · exact OI.mono (HO3.out.1.mv HZ.out.1 (fun k hk => by have := (HO3.out.1.lt k hk).1; omega)) hww
  · exact OI.mono (HO2.out.mv HZ.out.1 (fun k hk => by have := (HO2.out.lt k hk).1; omega)) (by omega)
  · have h3 := HO3.out.2 g h1
    have h4 := (HO2.out.lt g h2).1
    omega
end Go.Proofs.YtbaojmfkjpnfhaaGreatDoor
