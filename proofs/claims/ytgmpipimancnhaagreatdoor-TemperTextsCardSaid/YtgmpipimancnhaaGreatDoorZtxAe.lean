/- Regions that draw in which a variable is made beside calls: whichever comes first, what follows is the same. -/
import Derived.Test.YtgmpipimancnhaaGreatDoorZtxAd
import Derived.Test.YtgmpipimancnhaaGreatDoorShelC
import Derived.Laws.Strings
import Derived.Lib.ItoaNum
import Derived.Lib.LaidU8
import Derived.Lay
import Derived.ChangeMaps5
import Derived.Shelf.Vars
import Derived.Lib.AppendIntMem
import Derived.ChangeKeysEq
namespace Go.Proofs.YtgmpipimancnhaaGreatDoor
set_option linter.unusedSimpArgs false
open Go.RowKit
set_option linter.unusedVariables false
def BrQ (A : Nat → Act) (F : Nat → World → Prop) : Exit → Act → World → Prop
  | .normal, a, w => ∃ g, a = A g ∧ F g w
  | _, _, _ => False
theorem wp_branch {P : Program} {c : Code} {Q : Exit → Act → World → Prop} {a : Act} {w : World} (F : Nat → World → Prop) {A : Nat → Act} (h2 : c.wp P (BrQ A F) a w) (h1 : ∀ g w', F g w' → Q .normal (A g) w') : c.wp P Q a w :=
  Code.wp_mono (fun e a' w' h => by
    cases e <;> first | exact h.elim | (obtain ⟨g, rfl, hF⟩ := h; exact h1 g w' hF)) h2
section
variable {P : Program} {ops : Array Oper} {Q : Exit → Act → World → Prop} {md : Region.Mode} {S : World → Prop}
theorem wpAnyH_two (i j : Nat) {oi oj : Oper} {fuel : Nat} {listed : Array Bool} {a : Act} {w : World} (hi0 : ops.toList[i]? = some oi) (hj0 : ops.toList[j]? = some oj) (hr : Region.ready md ops listed = [i, j]) (hgi : oi.guard = none) (hgj : oj.guard = none)
    (h1 : ∀ K' : Act → World → Prop, Shut (∀ a w, S w → (S w → wpAnyH P md ops Q S fuel (listed.setIfInBounds i true) a w) → K' a w) → Oper.wp P oi a w K' Q)
    (h2 : ∀ K' : Act → World → Prop, Shut (∀ a w, S w → (S w → wpAnyH P md ops Q S fuel (listed.setIfInBounds j true) a w) → K' a w) → Oper.wp P oj a w K' Q) : wpAnyH P md ops Q S (fuel + 1) listed a w :=
  have hi : ops[i]? = some oi := (by rw [← Array.getElem?_toList]; exact hi0); have hj : ops[j]? = some oj := (by rw [← Array.getElem?_toList]; exact hj0)
  wpAnyH_ready hr (by simp) (AllReadyH.cons hi (fun K' hK => by
    have hw : Region.wanted oi (yielded ops a.tmps) = true := (by simp [Region.wanted, hgi]); rw [if_pos hw]
    exact h1 K' hK) (AllReadyH.cons hj (fun K' hK => by
    have hw : Region.wanted oj (yielded ops a.tmps) = true := (by simp [Region.wanted, hgj]); rw [if_pos hw]
    exact h2 K' hK) AllReadyH.nil))
end
section
variable {P : Program} {op : Oper} {a : Act} {w : World} {K : Act → World → Prop} {Q : Exit → Act → World → Prop}
theorem wp_alloc_new (ty : TypeId) (ho : op.op = .alloc ty) (cells : Array Value)
    (hz : ∀ w, (Instr.alloc ty true (.tuple #[])).run P w = .ok (.pointer (some ⟨w.heap.size, 0, none⟩)) (w.alloc (.cells cells ty)))
    (h : ∀ w' g, g = w.heap.size → Below w.heap.size w w' → w'.heap.size = g + 1 → Blk w' g ty cells → K (a.put op.dst (.pointer (some ⟨g, 0, none⟩))) w') : op.wp P a w K Q := by
  have hrun : (execOp a.eval op).run P w = .ok (.value (.pointer (some ⟨w.heap.size, 0, none⟩))) (w.alloc (.cells cells ty)) := by
    unfold execOp; simp only [ho, Sem.run_bind, hz, Result.andThen_ok, Sem.run_pure]
  unfold Oper.wp; rw [hrun, Oper.upon_value]; exact h _ _ rfl ((Below.refl _ _).alloc (Nat.le_refl _) _) (by simp) (Blk.new w ty cells)
end
end Go.Proofs.YtgmpipimancnhaaGreatDoor
namespace Go.Proofs.YtgmpipimancnhaaGreatDoor
set_option linter.unusedSimpArgs false
open Go.RowKit
set_option linter.unusedVariables false
attribute [-simp] Tryz.isAgg69 Tryz.isAgg26 Tryz.isAgg24 Tryz.isAgg23
def ParOK (w : World) : Prop := ((∃ m : Int, w.cell? ⟨2, 0, none⟩ = some (.int .i64 m)) ∧ (∃ ev, w.cell? ⟨0, 0, none⟩ = some ev ∧ (ev = .nilIface ∨ ∃ te pe, ev = .iface te pe)) ∧ (∃ ev, w.cell? ⟨1, 0, none⟩ = some ev ∧ (ev = .nilIface ∨ ∃ te pe, ev = .iface te pe))) ∧ 8 < w.heap.size
theorem ParOK.mv {w w' : World} (h : ParOK w) {g : Nat} (hm : Mv g w w') (hg : 8 < g) : ParOK w' := by
  have hc : ∀ b, b ≤ 8 → w'.cell? ⟨b, 0, none⟩ = w.cell? ⟨b, 0, none⟩ := fun b hb => World.cell?_of_block (w := w) (hm.block b (by have := h.2; omega) (by omega))
  obtain ⟨⟨h1, h2, h3⟩, h4⟩ := h; refine ⟨⟨?_, ?_, ?_⟩, Nat.lt_of_lt_of_le h4 hm.size⟩
  · rw [hc _ (by decide)]; exact h1
  · rw [hc _ (by decide)]; exact h2
  · rw [hc _ (by decide)]; exact h3
theorem ParOK.below {w w' : World} (h : ParOK w) (hb : Below w.heap.size w w') : ParOK w' := h.mv (Mv.below hb) h.2
structure ReadR (w w' : World) (g : Nat) (v : Value) (ok : Bool) (z : Int) (e : Ending) : Prop where
  ret : e = .returned (.int .i64 z)
  mv : Mv g w w'
  blk : ∃ v', Blk w' g 41 #[v'] ∧ (ok = true → v' = v) ∧ (ok = false → ∃ te pe, v' = .iface te pe)
set_option maxHeartbeats 6400000 in
set_option maxRecDepth 100000 in
theorem tRead_any (s : ByteArray) (hs : s.size ≤ 200) (g : Nat) (v : Value) (w : World) (hP : ParOK w) (hB : Blk w g 41 #[v]) :
    Calls Tryz.prog 15 #[.string s, .pointer (some ⟨g, 0, none⟩)] w fun e w' => ReadR w w' g v (okI s.data.toList) (rdI s.data.toList) e := by
  obtain ⟨⟨_, ⟨ev1, h1, h1'⟩, ⟨ev2, h2, h2'⟩⟩, _⟩ := hP
  have HC : Sl (Calls Tryz.prog 16 #[.string s, .int .i64 10, .int .i64 16] w fun e w' => ∃ ev, (e = .returned (.tuple #[.int .i64 (rdI s.data.toList), ev]) ∧ (okI s.data.toList = true → ev = .nilIface) ∧ (okI s.data.toList = false → ∃ te pe, ev = .iface te pe)) ∧ Below w.heap.size w w') := ⟨by
    rcases hp : Lib.parseIntB 16 s.data.toList with z | _ | _
    · refine (Tryz.strconv_ParseInt_10_at16_ok s (by omega) z hp w).mono ?_; rintro e w' ⟨rfl, hw⟩; refine ⟨.nilIface, ⟨by unfold rdI; rw [hp], fun _ => rfl, fun h => ?_⟩, ?_⟩
      · unfold okI at h; rw [hp] at h; cases h
      · rcases hw with rfl | ⟨t, rfl⟩
        · exact Below.refl _ _
        · exact Lib.bytesWorld_below _ _ _
    · refine (Tryz.strconv_ParseInt_10_at16_syntax s (by omega) hp ev1 w h1 h1').mono ?_; rintro e w' ⟨N, rfl, _, _, hb⟩; refine ⟨_, ⟨by unfold rdI; rw [hp], fun h => ?_, fun _ => ⟨_, _, rfl⟩⟩, hb⟩; unfold okI at h; rw [hp] at h; cases h
    · refine (Tryz.strconv_ParseInt_10_at16_range s (by omega) hp ev2 w h2 h2').mono ?_; rintro e w' ⟨N, rfl, _, _, hb⟩; refine ⟨_, ⟨by unfold rdI; rw [hp], fun h => ?_, fun _ => ⟨_, _, rfl⟩⟩, hb⟩
      unfold okI at h; rw [hp] at h; cases h⟩
  clear h1 h1' h2 h2'; generalize rdI s.data.toList = z at *
  generalize okI s.data.toList = ok at *
  have hlt := hB.lt; have HX : Sl (Blk w g 41 #[v]) := ⟨hB⟩; clear hB hs; go_enter Tryz.func15, Tryz.ntmps15; go_wp2_with fail; refine HC.out.mono ?_; rintro e w1 ⟨ev, ⟨rfl, hok, hbad⟩, hb⟩; have XB : Sl (Blk w1 g 41 #[v]) := ⟨HX.out.below hb hlt⟩; have HM : Sl (Mv g w w1) := ⟨Mv.below hb⟩; clear hb HX HC
  cases ok
  · obtain ⟨te, pe, rfl⟩ := hbad rfl; clear hok hbad; have c0 : w1.cell? ⟨g, 0, none⟩ = some v := XB.out.cell 0; have f0 := XB.out.frozen 0; go_wp2_with fail; go_ret; exact ⟨rfl, HM.out.trans (Mv.setc w1 g 0 _), _, XB.out.set_ 0 _, fun h => absurd h (by decide), fun _ => ⟨_, _, rfl⟩⟩
  · obtain rfl := hok rfl; clear hok hbad; go_wp2_with fail; go_ret; exact ⟨rfl, HM.out, v, XB.out, fun _ => rfl, fun h => absurd h (by decide)⟩
def OKS (s : ByteArray) : Prop := okI ((wordsB s).getD 2 ⟨#[]⟩).data.toList = true ∧ ∀ i, i < 12 → okI (cutN ((wordsB s).getD (3 + i) ⟨#[]⟩)).1 = true ∧ ((cutN ((wordsB s).getD (3 + i) ⟨#[]⟩)).2.2 = true → okI (cutN ((wordsB s).getD (3 + i) ⟨#[]⟩)).2.1 = true)
theorem oks_txt {t : TV} (h : t.chk nameS = 0) : OKS t.txt := by
  have hg := TV.chk_ok h; unfold OKS; rw [words_txt hg]; refine ⟨(itB_ok (by omega) (by omega)).2.1, fun i hi => ?_⟩; have hb := bad_bd (hg.2.1 i hi); rw [wds_at t hi, wd_cut hb.1 hb.2.1 hb.2.2]
  split
  · exact ⟨(itB_ok hb.1.1 hb.1.2).2.1, fun _ => (itB_ok hb.2.1.1 hb.2.1.2).2.1⟩
  · exact ⟨(itB_ok hb.1.1 hb.1.2).2.1, fun h => absurd h (by simp)⟩
def BadV (v : Value) (s : ByteArray) : Prop := v = .nilIface ∨ ((∃ te pe, v = .iface te pe) ∧ ¬ OKS s)
theorem BadV.next {v v' : Value} {s : ByteArray} {l : List UInt8} (h : BadV v s) (h1 : okI l = true → v' = v) (h2 : okI l = false → ∃ te pe, v' = .iface te pe) (h3 : OKS s → okI l = true) : BadV v' s := by
  rcases hk : okI l with _ | _
  · exact .inr ⟨h2 hk, fun ho => by rw [h3 ho] at hk; cases hk⟩
  · rw [h1 hk]; exact h
theorem bytes_list (a : List UInt8) : (⟨a.toArray⟩ : ByteArray).data.toList = a := by simp
theorem cut_le (s : ByteArray) : (cutN s).1.length ≤ s.size ∧ (cutN s).2.1.length ≤ s.size := by
  have e : s.data.toList.length = s.size := (by rw [Array.length_toList]; rfl); unfold cutN Lib.cut
  split
  · refine ⟨?_, ?_⟩
    · show (s.data.toList.take _).length ≤ _; rw [List.length_take]; omega
    · show (s.data.toList.drop _).length ≤ _; rw [List.length_drop]; omega
  · exact ⟨by rw [e]; exact Nat.le_refl _, Nat.zero_le _⟩
theorem bytes_eq {a b : ByteArray} (h : a.toList = b.toList) : a = b := by
  have e : ∀ x : ByteArray, x.toList = x.data.toList := fun x => Go.ByteArray.toList_eq x
  rw [e, e] at h
  cases a; cases b
  simpa using h
theorem alloc_err (w : World) : (Instr.alloc 41 true (.tuple #[])).run Tryz.prog w = .ok (.pointer (some ⟨w.heap.size, 0, none⟩)) (w.alloc (.cells #[.nilIface] 41)) := by kernel_rfl
theorem words_cell {w : World} {g : Nat} {t : TypeId} {l : List ByteArray} (h : Blk w g t (strs l).toArray) {j : Nat} (hj : j < l.length) : w.cell? ⟨g, j, none⟩ = some (.string (l.getD j ⟨#[]⟩)) := by
  rw [h.cell j]; unfold strs; rw [List.getElem?_toArray, List.getElem?_map, List.getElem?_eq_getElem hj]; simp [List.getD, List.getElem?_eq_getElem hj]
theorem split_any (s : ByteArray) (hs : s.size ≤ 200) (w : World) (hP : ParOK w) : Calls Tryz.prog 14 #[.string s, .string ⟨#[32]⟩] w fun e w' => (∃ g n, n = (wordsB s).length ∧ e = .returned (.slice (some ⟨g, 0, none⟩) n n) ∧ Blk w' g 9 (strs (wordsB s)).toArray ∧ w.heap.size ≤ g) ∧ Below w.heap.size w w' := by
  obtain ⟨⟨⟨m, hm⟩, _⟩, _⟩ := hP; refine (Tryz.strings_Split s ⟨#[32]⟩ m w (by omega) hm (by decide)).mono ?_; rintro e w' ⟨rfl, rfl⟩; refine ⟨⟨_, _, ?_, rfl, ?_, Nat.le_refl _⟩, (Below.refl _ _).alloc (Nat.le_refl _) _⟩
  · have h := Lib.splitB_all ⟨#[32]⟩ (by decide) 0 _ s rfl; rw [split_words] at h; exact h.symm
  · rw [split_words]; exact Blk.new _ _ _
theorem cut_any (s : ByteArray) (hs : s.size ≤ 200) (w : World) (hP : ParOK w) : Calls Tryz.prog 17 #[.string s, .string ⟨#[47]⟩] w fun e w' => e = .returned (.tuple #[.string ⟨(cutN s).1.toArray⟩, .string ⟨(cutN s).2.1.toArray⟩, .bool (cutN s).2.2]) ∧ Below w.heap.size w w' := by
  obtain ⟨⟨⟨m, hm⟩, _⟩, _⟩ := hP; refine (Tryz.strings_Cut s ⟨#[47]⟩ m w (by omega) hm).mono ?_; rintro e w' ⟨rfl, n, rfl⟩; exact ⟨rfl, below_drewN (Below.refl _ _) n⟩
theorem spl_le (c : UInt8) : ∀ (l : List UInt8), ∀ x ∈ spl c l, x.length ≤ l.length
  | [], x, hx => by simp [spl] at hx; subst hx; simp
  | b :: l, x, hx => by
    have ih := spl_le c l
    by_cases hb : b = c
    · subst hb; rw [spl_eq] at hx; rcases List.mem_cons.1 hx with rfl | h
      · simp
      · have := ih x h; simp; omega
    · rcases hs : spl c l with _ | ⟨h, t⟩
      · rw [spl, if_neg hb, hs] at hx; simp at hx; subst hx; simp
      · rw [spl_ne hb hs] at hx; rw [hs] at ih; rcases List.mem_cons.1 hx with rfl | h2
        · have := ih h (by simp); simp; omega
        · have := ih x (List.mem_cons_of_mem _ h2); simp; omega
theorem word_le (s : ByteArray) (j : Nat) : ((wordsB s).getD j ⟨#[]⟩).size ≤ s.size := by
  rcases Nat.lt_or_ge j (wordsB s).length with h | h
  · have hm : (wordsB s)[j] ∈ wordsB s := List.getElem_mem h; have e : (wordsB s).getD j ⟨#[]⟩ = (wordsB s)[j] := (by simp [List.getD, List.getElem?_eq_getElem h]); rw [e]; unfold wordsB at hm ⊢; obtain ⟨x, hx, hx2⟩ := List.mem_map.1 hm; rw [← hx2]; have := spl_le 32 s.data.toList x hx; have e2 : s.data.toList.length = s.size := (by rw [Array.length_toList]; rfl); have e3 : (⟨x.toArray⟩ : ByteArray).size = x.length := (by simp [ByteArray.size]); omega
  · have e : (wordsB s).getD j ⟨#[]⟩ = ⟨#[]⟩ := (by simp [List.getD, List.getElem?_eq_none h]); rw [e]; exact Nat.zero_le _
set_option maxHeartbeats 6400000 in
set_option maxRecDepth 100000 in
theorem tParse_any (s : ByteArray) (w : World) (hI : ItoaOK w) (hP : ParOK w) : Calls Tryz.prog 6 #[.string s] w fun e w' => e = .returned (.tuple #[.agg (parT s).1.cells, .int .i64 (parT s).2]) ∧ Below w.heap.size w w' := by
  have HB : Sl (Below w.heap.size w w) := ⟨Below.refl _ _⟩; have HP : Sl _ := ⟨hP⟩; have HI : Sl _ := ⟨hI⟩; have HSP : Sl _ := ⟨fun (h : s.size ≤ 200) (W : World) (h2 : ParOK W) => split_any s h W h2⟩; clear hI hP; obtain ⟨r, hr⟩ : ∃ r, parT s = r := ⟨_, rfl⟩; rw [hr]; have HR : Sl _ := ⟨hr⟩; clear hr
  by_cases hl : 200 < s.size
  · have hd : decide ((200 : Int) < (s.size : Int)) = true := decide_eq_true (by omega); have HV : Sl (r = (TV0, 3)) := ⟨by rw [← HR.out]; exact parT_long hl⟩; go_enter Tryz.func6, Tryz.ntmps6
    go_wp2_with ((with_reducible show wpList _ _ _ _ _ _); first
      | (refine wpList_alloc_new 2 rfl rfl 26 rfl TV0.cells alloc_temper ?_; rintro w1 gR zg zm zs zb; have ORD : Sl (w.heap.size ≤ gR) := ⟨by have := HB.out.size; omega⟩; replace HB : Sl (Below w.heap.size w w1) := ⟨below_mv HB.out zm (by have := HB.out.size; have := ORD.out; omega) HB.out.size⟩; have XR : Sl (Blk w1 gR 26 TV0.cells) := ⟨zb⟩; clear zg zm zs zb)
      | (refine wpList_store_whole rfl 26 (.tmp 2) (.tmp 18) rfl gR TV0.cells rfl rfl 26 TV0.cells XR.out rfl (size_temper _) (TV.cells_one _) ?_; rintro w2 zm zs zb; replace HB : Sl (Below w.heap.size w w2) := ⟨below_mv HB.out zm (by have := HB.out.size; have := ORD.out; omega) HB.out.size⟩; replace XR : Sl (Blk w2 gR 26 TV0.cells) := ⟨zb⟩; clear zm zs zb))
    refine bodyPost_ret (results_rowR rfl _ _ gR _ _ _ rfl XR.out Tryz.underlying26 rfl (size_temper _)) rfl ?_; exact ⟨by rw [HV.out]; rfl, HB.out⟩
  · have hd : decide ((200 : Int) < (s.size : Int)) = false := decide_eq_false (by omega); have HL : Sl (s.size ≤ 200) := ⟨by omega⟩; clear hl; go_enter Tryz.func6, Tryz.ntmps6
    go_wp2_with ((with_reducible show wpList _ _ _ _ _ _); first
      | (refine wpList_alloc_new 2 rfl rfl 26 rfl TV0.cells alloc_temper ?_; rintro w13 gR zg zm zs zb; have ORD : Sl (w.heap.size ≤ gR) := ⟨by have := HB.out.size; omega⟩; replace HB : Sl (Below w.heap.size w w13) := ⟨below_mv HB.out zm (by have := HB.out.size; have := ORD.out; omega) HB.out.size⟩; have XR : Sl (Blk w13 gR 26 TV0.cells) := ⟨zb⟩; clear zg zm zs zb))
    have HSZ : Sl (gR < w13.heap.size) := ⟨XR.out.lt⟩; refine (HSP.out HL.out _ (HP.out.below HB.out)).mono ?_; rintro e w14 ⟨⟨gW, n, hn, rfl, zb, hge⟩, hb⟩; replace HB : Sl (Below w.heap.size w w14) := ⟨HB.out.trans (hb.mono HB.out.size)⟩; replace XR : Sl (Blk w14 gR 26 TV0.cells) := ⟨XR.out.below hb XR.out.lt⟩; have XW : Sl (Blk w14 gW 9 (strs (wordsB s)).toArray) := ⟨zb⟩; replace ORD : Sl (w.heap.size ≤ gR ∧ gR < gW) := ⟨by have := ORD.out; have := HSZ.out; omega⟩; clear hb zb hge; have HN : Sl _ := ⟨hn⟩; clear hn
    by_cases h15 : n = 15
    · subst h15; obtain ⟨W0, hW0⟩ : ∃ x, (wordsB s).getD 0 ⟨#[]⟩ = x := ⟨_, rfl⟩; obtain ⟨W1, hW1⟩ : ∃ x, (wordsB s).getD 1 ⟨#[]⟩ = x := ⟨_, rfl⟩; have HW : Sl _ := ⟨And.intro hW0 hW1⟩; clear hW0 hW1; obtain ⟨syn, hsyn⟩ : ∃ b, (W1.toList == [115, 121, 110, 116, 111, 110, 105, 99]) = b := ⟨_, rfl⟩; have hag := Tryz.isAgg26; have HSY : Sl _ := ⟨hsyn⟩; go_wp2_with fail; refine' wp_branch (fun g w' => Below w14.heap.size w14 w' ∧ w14.heap.size ≤ g ∧ Blk w' g 26 (TV.mk W0 syn 0 (fun _ => 0) (fun _ => 0)).cells) ?hreg ?hrest
      case hreg =>
        have hm : Below w14.heap.size w14 w14.drew := below_drewN (Below.refl _ _) 1; have HSW : Sl _ := ⟨hm⟩; refine wp_region_held_drew (S := fun w' => Below w14.heap.size w14 w') (by kernel_rfl) hm (fun hHeld => ?_); clear hm; refine wpAnyH_pure 0 (v := .slice (some ⟨gW, 0, none⟩) 15 15) rfl (by kernel_rfl) (by kernel_rfl) (by kernel_rfl) (fun _ _ _ h => h) rfl (fun _ => rfl) (by assumption) ?_; simp only [Act.put, sS0, sS1, sS2]; refine wpAnyH_pure 1 (v := .pointer (some ⟨gW, 0, none⟩)) rfl (by kernel_rfl) (by kernel_rfl) (by kernel_rfl) (fun _ _ _ h => h) rfl (fun _ => by go_simp) (by assumption) ?_; simp only [Act.put, sS0, sS1, sS2]
        refine wpAnyH_cell 2 (v := .string W0) rfl rfl (fun w' h => by
          have e := words_cell (XW.out.below h XW.out.lt) (j := 0) (by have := HN.out; omega); rw [HW.out.1] at e
          go_simp) (by kernel_rfl) (by kernel_rfl) (by kernel_rfl) (fun _ _ _ h => h) (by assumption) ?_
        simp only [Act.put, sS0, sS1, sS2]; refine wpAnyH_pure 3 (v := .slice (some ⟨gW, 0, none⟩) 15 15) rfl (by kernel_rfl) (by kernel_rfl) (by kernel_rfl) (fun _ _ _ h => h) rfl (fun _ => rfl) (by assumption) ?_; simp only [Act.put, sS0, sS1, sS2]; refine wpAnyH_pure 4 (v := .pointer (some ⟨gW, 1, none⟩)) rfl (by kernel_rfl) (by kernel_rfl) (by kernel_rfl) (fun _ _ _ h => h) rfl (fun _ => by go_simp) (by assumption) ?_; simp only [Act.put, sS0, sS1, sS2]
        refine wpAnyH_cell 5 (v := .string W1) rfl rfl (fun w' h => by
          have e := words_cell (XW.out.below h XW.out.lt) (j := 1) (by have := HN.out; omega); rw [HW.out.2] at e
          go_simp) (by kernel_rfl) (by kernel_rfl) (by kernel_rfl) (fun _ _ _ h => h) (by assumption) ?_
        simp only [Act.put, sS0, sS1, sS2]; refine wpAnyH_pure 6 (v := .bool syn) rfl (by kernel_rfl) (by kernel_rfl) (by kernel_rfl) (fun _ _ _ h => h) rfl (fun _ => by go_simp) (by assumption) ?_; simp only [Act.put, sS0, sS1, sS2]; refine wpAnyH_pure 7 (v := .agg (TV.mk W0 syn 0 (fun _ => 0) (fun _ => 0)).cells) rfl (by kernel_rfl) (by kernel_rfl) (by kernel_rfl) (fun _ _ _ h => h) rfl (fun _ => by first | kernel_rfl | rfl) (by assumption) ?_; simp only [Act.put, sS0, sS1, sS2]; refine wpAnyH_one 8 rfl (by kernel_rfl) rfl (fun K hK => ?_); refine wp_alloc_new 26 rfl TV0.cells alloc_temper ?_; rintro z15 gn zg zm zs zb; have GE : Sl (w14.heap.size ≤ gn) := ⟨by have := HSW.out.size; omega⟩; have NB : Sl (Blk z15 gn 26 TV0.cells) := ⟨zb⟩; replace HSW : Sl (RowKit.Below w14.heap.size w14 z15) := ⟨HSW.out.trans (zm.mono HSW.out.size)⟩; refine hK.out _ _ HSW.out (fun hHeld => ?_); clear hK K zg zm zs zb; simp only [Act.put, sS0, sS1, sS2]; refine wpAnyH_one 9 rfl (by kernel_rfl) rfl (fun K hK => ?_); refine wp_store_part 26 (.tmp 5) (.tmp 32) rfl gn 0 (TV.mk W0 syn 0 (fun _ => 0) (fun _ => 0)).cells rfl rfl 26 TV0.cells (TV.mk W0 syn 0 (fun _ => 0) (fun _ => 0)).cells NB.out (by rw [TV.cells_size, TV.cells_size]; decide) (putA_all _ _ rfl) (size_temper _) (TV.cells_one _) ?_; rintro z16 zm zs zb; have hbn : Below w14.heap.size w14 z16 := below_mv HSW.out zm GE.out HSW.out.size; replace HSW : Sl (Below w14.heap.size w14 z16) := ⟨hbn⟩; refine hK.out _ _ hbn (fun hHeld => ?_); clear hK K hbn zm zs; simp only [Act.put, sS0, sS1, sS2]; exact wpAnyH_done (by kernel_rfl) ⟨gn, rfl, HSW.out, GE.out, zb⟩ _
      case hrest =>
        rintro gU w17 ⟨hb, hge, zb⟩; replace ORD : Sl (w.heap.size ≤ gR ∧ gR < gW ∧ gW < gU) := ⟨by have := HB.out.size; have := ORD.out; have := XR.out.lt; have := XW.out.lt; omega⟩; replace HB : Sl (Below w.heap.size w w17) := ⟨HB.out.trans (hb.mono HB.out.size)⟩; replace XR : Sl (Blk w17 gR 26 TV0.cells) := ⟨XR.out.below hb XR.out.lt⟩; replace XW : Sl (Blk w17 gW 9 (strs (wordsB s)).toArray) := ⟨XW.out.below hb XW.out.lt⟩; have XU : Sl (Blk w17 gU 26 (TV.mk W0 syn 0 (fun _ => 0) (fun _ => 0)).cells) := ⟨zb⟩; clear hb hge zb; clear hsyn hag; have hrun : ∀ (args : Array Value) (w : World), (callFunc 15 args).run Tryz.prog w = .ok (.enter 15 args) w := fun a w => by go_simp
        obtain ⟨p, hp⟩ : ∃ p, pvR rdI (wordsB s) = p := ⟨_, rfl⟩; have HPV : Sl _ := ⟨hp⟩; have HX : Sl (p.nm = W0 ∧ p.syn = syn ∧ p.wolf = rdI ((wordsB s).getD 2 ⟨#[]⟩).data.toList) := ⟨by rw [← hp]; exact ⟨HW.out.1, by rw [← HSY.out, ← HW.out.2]; rfl, rfl⟩⟩; clear hp; obtain ⟨W2, hW2⟩ : ∃ x, (wordsB s).getD 2 ⟨#[]⟩ = x := ⟨_, rfl⟩; rw [hW2] at HX; have HW2 : Sl _ := ⟨hW2⟩; clear hW2; have HCJ : Sl (∀ (V : World) (j : Nat), j < 15 → Blk V gW 9 (strs (wordsB s)).toArray → V.cell? ⟨gW, j, none⟩ = some (.string ((wordsB s).getD j ⟨#[]⟩))) := ⟨fun V j hj h => words_cell h (by have := HN.out; omega)⟩; have HC2 : Sl (∀ V : World, Blk V gW 9 (strs (wordsB s)).toArray → V.cell? ⟨gW, 2, none⟩ = some (.string W2)) := ⟨fun V h => by rw [← HW2.out]; exact HCJ.out V 2 (by decide) h⟩
        go_wp2_with ((with_reducible show wpList _ _ _ _ _ _); first
          | (refine wpList_alloc_new 6 rfl rfl 41 rfl #[.nilIface] alloc_err ?_; rintro w18 gB zg zm zs zb; replace ORD : Sl (w.heap.size ≤ gR ∧ gR < gW ∧ gW < gU ∧ gU < gB) := ⟨by have := HB.out.size; have := ORD.out; have := XR.out.lt; have := XW.out.lt; have := XU.out.lt; omega⟩; replace HB : Sl (Below w.heap.size w w18) := ⟨below_mv HB.out zm (by have := HB.out.size; have := ORD.out; omega) HB.out.size⟩; replace XR : Sl (Blk w18 gR 26 TV0.cells) := ⟨XR.out.mv zm (by have := XR.out.lt; have := ORD.out; omega)⟩; replace XW : Sl (Blk w18 gW 9 (strs (wordsB s)).toArray) := ⟨XW.out.mv zm (by have := XW.out.lt; have := ORD.out; omega)⟩; replace XU : Sl (Blk w18 gU 26 (TV.mk W0 syn 0 (fun _ => 0) (fun _ => 0)).cells) := ⟨XU.out.mv zm (by have := XU.out.lt; have := ORD.out; omega)⟩; have XB : Sl (Blk w18 gB 41 #[.nilIface]) := ⟨zb⟩; clear zg zm zs zb; have c2 : w18.cell? ⟨gW, 2, none⟩ = some (.string W2) := HC2.out _ XW.out))
        (try clear c2)
        refine (tRead_any W2 (by have := HL.out; have := word_le s 2; rw [HW2.out] at this; omega) gB _ _ (HP.out.below HB.out) XB.out).mono ?_; rintro e w19 ⟨rfl, hm, vw19, zb, hz1, hz2⟩; replace HB : Sl (Below w.heap.size w w19) := ⟨below_mv HB.out hm (by have := HB.out.size; have := ORD.out; omega) HB.out.size⟩; replace XR : Sl (Blk w19 gR 26 TV0.cells) := ⟨XR.out.mv hm (by have := XR.out.lt; have := ORD.out; omega)⟩; replace XW : Sl (Blk w19 gW 9 (strs (wordsB s)).toArray) := ⟨XW.out.mv hm (by have := XW.out.lt; have := ORD.out; omega)⟩; replace XU : Sl (Blk w19 gU 26 (TV.mk W0 syn 0 (fun _ => 0) (fun _ => 0)).cells) := ⟨XU.out.mv hm (by have := XU.out.lt; have := ORD.out; omega)⟩; replace XB : Sl (Blk w19 gB 41 #[vw19]) := ⟨zb⟩; have HV : Sl (BadV vw19 s) := ⟨BadV.next (v := .nilIface) (.inl rfl) hz1 hz2 (fun ho => by have := ho.1; rw [HW2.out] at this; exact this)⟩; clear hm zb hz1 hz2; obtain ⟨z2, hz2⟩ : ∃ z, rdI W2.data.toList = z := ⟨_, rfl⟩; rw [hz2] at HX; have HZ2 : Sl _ := ⟨hz2⟩; rw [hz2]; clear hz2
        go_wp2_with ((with_reducible show wpList _ _ _ _ _ _); first
          | (refine wpList_store_int rfl 3 (.tmp 39) _ rfl gU (2) .i64 (z2) rfl rfl 26 (TV.mk W0 syn 0 (fun _ => 0) (fun _ => 0)).cells (TV.mk W0 syn z2 (fun _ => 0) (fun _ => 0)).cells XU.out (by rw [TV.cells_size]; decide) rfl size_int ?_; rintro w20 zm zs zb; replace HB : Sl (Below w.heap.size w w20) := ⟨below_mv HB.out zm (by have := HB.out.size; have := ORD.out; omega) HB.out.size⟩; replace XR : Sl (Blk w20 gR 26 TV0.cells) := ⟨XR.out.mv zm (by have := XR.out.lt; have := ORD.out; omega)⟩; replace XW : Sl (Blk w20 gW 9 (strs (wordsB s)).toArray) := ⟨XW.out.mv zm (by have := XW.out.lt; have := ORD.out; omega)⟩; replace XB : Sl (Blk w20 gB 41 #[vw19]) := ⟨XB.out.mv zm (by have := XB.out.lt; have := ORD.out; omega)⟩; replace XU : Sl (Blk w20 gU 26 (TV.mk W0 syn z2 (fun _ => 0) (fun _ => 0)).cells) := ⟨zb⟩; clear zm zs zb))
        go_loopw [43] (fun sk wr => ∃ (k : Nat) (v : Value), k ≤ 12 ∧ sk = .int .i64 k ∧ Sl (Below w.heap.size w wr) ∧ Sl (Blk wr gR 26 TV0.cells) ∧ Sl (Blk wr gW 9 (strs (wordsB s)).toArray) ∧ Sl (Blk wr gB 41 #[v]) ∧ Sl (Blk wr gU 26 ((TV.mk W0 syn z2 (fun _ => 0) (fun _ => 0)).fill p k).cells) ∧ Sl (BadV v s)) (fun sk _ => 12 - (RowKit.intOf sk).toNat)
        case atStart => exact ⟨0, _, by decide, rfl, HB, XR, XW, XB, XU, HV⟩
        case round =>
          clear HB XR XW XB XU HV; obtain ⟨k, v, hk, rfl, HB, XR, XW, XB, XU, HV⟩ := hrel
          by_cases hk12 : k < 12
          · have hk0 : (0 : Int) ≤ (k : Int) := (by omega); have hk1 : (k : Int) < 12 := (by omega); obtain ⟨wd, hwd⟩ : ∃ x, (wordsB s).getD (3 + k) ⟨#[]⟩ = x := ⟨_, rfl⟩; have hsz := word_le s (3 + k); rw [hwd] at hsz; have ck := HCJ.out _ (3 + k) (by omega) XW.out; rw [hwd] at ck; have hcut := cut_le wd; have hpn : p.num k = rdI (cutN wd).1 := (by rw [← HPV.out, ← hwd]; rfl); have hpd : p.den k = if (cutN wd).2.2 = true then rdI (cutN wd).2.1 else 1 := (by rw [← HPV.out, ← hwd]; rfl)
            have hok : OKS s → okI (cutN wd).1 = true ∧ ((cutN wd).2.2 = true → okI (cutN wd).2.1 = true) := fun ho => by
              have := ho.2 k hk12; rw [hwd] at this; exact this
            have HWS : Sl (wd.size ≤ 200) := ⟨by have := HL.out; omega⟩; have HCU : Sl (∀ W : World, ParOK W → Calls Tryz.prog 17 #[.string wd, .string ⟨#[47]⟩] W fun e w' => e = .returned (.tuple #[.string ⟨(cutN wd).1.toArray⟩, .string ⟨(cutN wd).2.1.toArray⟩, .bool (cutN wd).2.2]) ∧ Below W.heap.size W w') := ⟨fun W h => cut_any wd HWS.out W h⟩; obtain ⟨c, hc⟩ : ∃ c, cutN wd = c := ⟨_, rfl⟩; rw [hc] at hcut hpn hpd hok HCU; obtain ⟨a, b, f⟩ := c; simp only at hcut hpn hpd hok HCU
            have HLA : Sl ((⟨a.toArray⟩ : ByteArray).size ≤ 200 ∧ (⟨b.toArray⟩ : ByteArray).size ≤ 200) := ⟨by
              have e1 : (⟨a.toArray⟩ : ByteArray).size = a.length := (by simp [ByteArray.size]); have e2 : (⟨b.toArray⟩ : ByteArray).size = b.length := (by simp [ByteArray.size]); have := HWS.out
              omega⟩
            have HPN : Sl _ := ⟨And.intro hpn hpd⟩; have HOK : Sl _ := ⟨hok⟩; clear hc hcut hpn hpd hok hwd hsz; go_wp2_with fail; refine (HCU.out _ (HP.out.below HB.out)).mono ?_; rintro e w21 ⟨rfl, hb⟩; replace HB : Sl (Below w.heap.size w w21) := ⟨HB.out.trans (hb.mono HB.out.size)⟩; replace XR : Sl (Blk w21 gR 26 TV0.cells) := ⟨XR.out.below hb XR.out.lt⟩; replace XW : Sl (Blk w21 gW 9 (strs (wordsB s)).toArray) := ⟨XW.out.below hb XW.out.lt⟩; replace XU : Sl (Blk w21 gU 26 ((TV.mk W0 syn z2 (fun _ => 0) (fun _ => 0)).fill p k).cells) := ⟨XU.out.below hb XU.out.lt⟩; replace XB : Sl (Blk w21 gB 41 #[v]) := ⟨XB.out.below hb XB.out.lt⟩; clear hb ck; go_wp2_with fail; refine (tRead_any ⟨a.toArray⟩ (HLA.out.1) gB _ _ (HP.out.below HB.out) XB.out).mono ?_; rintro e w22 ⟨rfl, hm, vw22, zb, hz1, hz2⟩; replace HB : Sl (Below w.heap.size w w22) := ⟨below_mv HB.out hm (by have := HB.out.size; have := ORD.out; omega) HB.out.size⟩; replace XR : Sl (Blk w22 gR 26 TV0.cells) := ⟨XR.out.mv hm (by have := XR.out.lt; have := ORD.out; omega)⟩; replace XW : Sl (Blk w22 gW 9 (strs (wordsB s)).toArray) := ⟨XW.out.mv hm (by have := XW.out.lt; have := ORD.out; omega)⟩; replace XU : Sl (Blk w22 gU 26 ((TV.mk W0 syn z2 (fun _ => 0) (fun _ => 0)).fill p k).cells) := ⟨XU.out.mv hm (by have := XU.out.lt; have := ORD.out; omega)⟩; replace XB : Sl (Blk w22 gB 41 #[vw22]) := ⟨zb⟩; rw [bytes_list] at hz1 hz2; rw [bytes_list]; obtain ⟨n, hn1⟩ : ∃ z, rdI a = z := ⟨_, rfl⟩; have HN1 : Sl (p.num k = n) := ⟨by rw [HPN.out.1, hn1]⟩; rw [hn1]; replace HV : Sl (BadV vw22 s) := ⟨HV.out.next hz1 hz2 (fun ho => (HOK.out ho).1)⟩; clear hm zb hz1 hz2 hn1
            cases f
            · skip
              go_wp2_with ((with_reducible show wpList _ _ _ _ _ _); first
                | (refine wpList_store_part rfl 23 (.tmp 60) (.tmp 58) rfl gU (3 + k * 2) #[.int .i64 n, .int .i64 1] rfl rfl 26 ((TV.mk W0 syn z2 (fun _ => 0) (fun _ => 0)).fill p k).cells (((TV.mk W0 syn z2 (fun _ => 0) (fun _ => 0)).fill p k).setp k n 1).cells XU.out (by rw [TV.cells_size]; show 3 + k * 2 + 2 ≤ 27; omega) (TV.setp_part _ _ _ hk12) (size_part _ _) (part_one _ _) ?_; rintro w23 zm zs zb; replace HB : Sl (Below w.heap.size w w23) := ⟨below_mv HB.out zm (by have := HB.out.size; have := ORD.out; omega) HB.out.size⟩; replace XR : Sl (Blk w23 gR 26 TV0.cells) := ⟨XR.out.mv zm (by have := XR.out.lt; have := ORD.out; omega)⟩; replace XW : Sl (Blk w23 gW 9 (strs (wordsB s)).toArray) := ⟨XW.out.mv zm (by have := XW.out.lt; have := ORD.out; omega)⟩; replace XB : Sl (Blk w23 gB 41 #[vw22]) := ⟨XB.out.mv zm (by have := XB.out.lt; have := ORD.out; omega)⟩; replace XU : Sl (Blk w23 gU 26 (((TV.mk W0 syn z2 (fun _ => 0) (fun _ => 0)).fill p k).setp k n 1).cells) := ⟨zb⟩; clear zm zs zb))
              have hp2 : p.den k = 1 := (by rw [HPN.out.2]; exact if_neg (by decide))
              exact ⟨⟨k + 1, _, hk12, by go_num, HB, XR, XW, XB, ⟨by
                  have e : ((TV.mk W0 syn z2 (fun _ => 0) (fun _ => 0)).fill p (k + 1)) = (((TV.mk W0 syn z2 (fun _ => 0) (fun _ => 0)).fill p k).setp k n 1) := (by show TV.setp _ k (p.num k) (p.den k) = _; rw [HN1.out, hp2])
                  rw [e]; exact XU.out⟩, HV⟩, by simp [RowKit.intOf]; omega⟩
            · skip
              go_wp2_with ((with_reducible show wpList _ _ _ _ _ _); first
                | (refine wpList_store_part rfl 23 (.tmp 60) (.tmp 58) rfl gU (3 + k * 2) #[.int .i64 n, .int .i64 1] rfl rfl 26 ((TV.mk W0 syn z2 (fun _ => 0) (fun _ => 0)).fill p k).cells (((TV.mk W0 syn z2 (fun _ => 0) (fun _ => 0)).fill p k).setp k n 1).cells XU.out (by rw [TV.cells_size]; show 3 + k * 2 + 2 ≤ 27; omega) (TV.setp_part _ _ _ hk12) (size_part _ _) (part_one _ _) ?_; rintro w44 zm zs zb; replace HB : Sl (Below w.heap.size w w44) := ⟨below_mv HB.out zm (by have := HB.out.size; have := ORD.out; omega) HB.out.size⟩; replace XR : Sl (Blk w44 gR 26 TV0.cells) := ⟨XR.out.mv zm (by have := XR.out.lt; have := ORD.out; omega)⟩; replace XW : Sl (Blk w44 gW 9 (strs (wordsB s)).toArray) := ⟨XW.out.mv zm (by have := XW.out.lt; have := ORD.out; omega)⟩; replace XB : Sl (Blk w44 gB 41 #[vw22]) := ⟨XB.out.mv zm (by have := XB.out.lt; have := ORD.out; omega)⟩; replace XU : Sl (Blk w44 gU 26 (((TV.mk W0 syn z2 (fun _ => 0) (fun _ => 0)).fill p k).setp k n 1).cells) := ⟨zb⟩; clear zm zs zb))
              refine (tRead_any ⟨b.toArray⟩ (HLA.out.2) gB _ _ (HP.out.below HB.out) XB.out).mono ?_; rintro e w45 ⟨rfl, hm, vw45, zb, hz1, hz2⟩; replace HB : Sl (Below w.heap.size w w45) := ⟨below_mv HB.out hm (by have := HB.out.size; have := ORD.out; omega) HB.out.size⟩; replace XR : Sl (Blk w45 gR 26 TV0.cells) := ⟨XR.out.mv hm (by have := XR.out.lt; have := ORD.out; omega)⟩; replace XW : Sl (Blk w45 gW 9 (strs (wordsB s)).toArray) := ⟨XW.out.mv hm (by have := XW.out.lt; have := ORD.out; omega)⟩; replace XU : Sl (Blk w45 gU 26 (((TV.mk W0 syn z2 (fun _ => 0) (fun _ => 0)).fill p k).setp k n 1).cells) := ⟨XU.out.mv hm (by have := XU.out.lt; have := ORD.out; omega)⟩; replace XB : Sl (Blk w45 gB 41 #[vw45]) := ⟨zb⟩; rw [bytes_list] at hz1 hz2; rw [bytes_list]; obtain ⟨d, hn2⟩ : ∃ z, rdI b = z := ⟨_, rfl⟩; have HN2 : Sl (rdI b = d) := ⟨hn2⟩; rw [hn2]; replace HV : Sl (BadV vw45 s) := ⟨HV.out.next hz1 hz2 (fun ho => (HOK.out ho).2 (by trivial))⟩; clear hm zb hz1 hz2 hn2
              go_wp2_with ((with_reducible show wpList _ _ _ _ _ _); first
                | (refine wpList_store_int rfl 3 (.tmp 68) _ rfl gU (3 + k * 2 + 1) .i64 (d) rfl rfl 26 (((TV.mk W0 syn z2 (fun _ => 0) (fun _ => 0)).fill p k).setp k n 1).cells (((TV.mk W0 syn z2 (fun _ => 0) (fun _ => 0)).fill p k).setp k n d).cells XU.out (by rw [TV.cells_size]; omega) (TV.setp_den _ _ _ _ hk12) size_int ?_; rintro w46 zm zs zb; replace HB : Sl (Below w.heap.size w w46) := ⟨below_mv HB.out zm (by have := HB.out.size; have := ORD.out; omega) HB.out.size⟩; replace XR : Sl (Blk w46 gR 26 TV0.cells) := ⟨XR.out.mv zm (by have := XR.out.lt; have := ORD.out; omega)⟩; replace XW : Sl (Blk w46 gW 9 (strs (wordsB s)).toArray) := ⟨XW.out.mv zm (by have := XW.out.lt; have := ORD.out; omega)⟩; replace XB : Sl (Blk w46 gB 41 #[vw45]) := ⟨XB.out.mv zm (by have := XB.out.lt; have := ORD.out; omega)⟩; replace XU : Sl (Blk w46 gU 26 (((TV.mk W0 syn z2 (fun _ => 0) (fun _ => 0)).fill p k).setp k n d).cells) := ⟨zb⟩; clear zm zs zb))
              have hp2 : p.den k = d := (by rw [HPN.out.2]; exact (if_pos (by trivial)).trans HN2.out)
              exact ⟨⟨k + 1, _, hk12, by go_num, HB, XR, XW, XB, ⟨by
                  have e : ((TV.mk W0 syn z2 (fun _ => 0) (fun _ => 0)).fill p (k + 1)) = (((TV.mk W0 syn z2 (fun _ => 0) (fun _ => 0)).fill p k).setp k n d) := (by show TV.setp _ k (p.num k) (p.den k) = _; rw [HN1.out, hp2])
                  rw [e]; exact XU.out⟩, HV⟩, by simp [RowKit.intOf]; omega⟩
          · obtain rfl : k = 12 := (by omega)
            replace XU : Sl (Blk wr gU 26 p.cells) := ⟨by
              have e := TV.fill_end (t := (TV.mk W0 syn z2 (fun _ => 0) (fun _ => 0))) (p := p) HX.out.1.symm HX.out.2.1.symm HX.out.2.2.symm
              rw [← e]; exact XU.out⟩
            clear hk hk12
            by_cases hx : ∃ t : TV, t.chk nameS = 0 ∧ t.txt = s
            · obtain ⟨t, hc, ht⟩ := hx; have HQ : Sl (r.1.cells = t.cells ∧ r.2 = 0) := ⟨by rw [← HR.out]; exact parT_hit HL.out hc ht⟩
              have hpc : p.cells = t.cells := by
                have := pvR_txt reads_I hc; rw [ht, HPV.out] at this; exact this
              have hnm : t.nm.size ≤ maxLen := Nat.le_trans (nameS_len (TV.chk_ok hc).2.2.1) (by decide)
              obtain rfl : v = .nilIface := by
                rcases HV.out with h | ⟨_, h⟩
                · exact h
                · exact absurd (by rw [← ht]; exact oks_txt hc) h
              have HTX : Sl (∀ W : World, ItoaOK W → Calls Tryz.prog 4 #[.agg t.cells] W fun e w' => e = .returned (.tuple #[.string s, .int .i64 0]) ∧ Below W.heap.size W w') := ⟨fun W h => (tText_any t hnm W h).mono fun e w' hh => ⟨by rw [← ht]; exact hh.2.1 hc, hh.2.2⟩⟩; replace XU : Sl (Blk wr gU 26 t.cells) := ⟨by rw [← hpc]; exact XU.out⟩; clear hc ht hpc hnm HV
              go_wp2_with ((with_reducible show wpList _ _ _ _ _ _); first
                | (refine wpList_load_whole rfl 26 (.tmp 5) rfl gU rfl 26 t.cells _ XU.out Tryz.underlying26 rfl (size_temper t) ?_))
              refine (HTX.out _ (fun z V h1 h2 hb => HI.out z V h1 h2 (HB.out.trans (hb.mono HB.out.size)))).mono ?_; rintro e w67 ⟨rfl, hb⟩; replace HB : Sl (Below w.heap.size w w67) := ⟨HB.out.trans (hb.mono HB.out.size)⟩; replace XR : Sl (Blk w67 gR 26 TV0.cells) := ⟨XR.out.below hb XR.out.lt⟩; replace XW : Sl (Blk w67 gW 9 (strs (wordsB s)).toArray) := ⟨XW.out.below hb XW.out.lt⟩; replace XU : Sl (Blk w67 gU 26 t.cells) := ⟨XU.out.below hb XU.out.lt⟩; replace XB : Sl (Blk w67 gB 41 #[.nilIface]) := ⟨XB.out.below hb XB.out.lt⟩; clear hb; have cb := XB.out.cell 0
              go_wp2_with ((with_reducible show wpList _ _ _ _ _ _); first
                | (refine wpList_load_whole rfl 26 (.tmp 5) rfl gU rfl 26 t.cells _ XU.out Tryz.underlying26 rfl (size_temper t) ?_)
                | (refine wpList_store_whole rfl 26 (.tmp 2) (.tmp 87) rfl gR t.cells rfl rfl 26 TV0.cells XR.out rfl (size_temper _) (TV.cells_one _) ?_; rintro w68 zm zs zb; replace HB : Sl (Below w.heap.size w w68) := ⟨below_mv HB.out zm (by have := HB.out.size; have := ORD.out; omega) HB.out.size⟩; replace XW : Sl (Blk w68 gW 9 (strs (wordsB s)).toArray) := ⟨XW.out.mv zm (by have := XW.out.lt; have := ORD.out; omega)⟩; replace XU : Sl (Blk w68 gU 26 t.cells) := ⟨XU.out.mv zm (by have := XU.out.lt; have := ORD.out; omega)⟩; replace XB : Sl (Blk w68 gB 41 #[.nilIface]) := ⟨XB.out.mv zm (by have := XB.out.lt; have := ORD.out; omega)⟩; replace XR : Sl (Blk w68 gR 26 t.cells) := ⟨zb⟩; clear zm zs zb))
              refine bodyPost_ret (results_rowR rfl _ _ gR _ _ _ rfl XR.out Tryz.underlying26 rfl (size_temper _)) rfl ?_; exact ⟨by rw [HQ.out.1, HQ.out.2]; rfl, HB.out⟩
            · have HQ : Sl (r = (TV0, 6)) := ⟨by rw [← HR.out]; exact parT_miss HL.out hx⟩
              have hnm : p.nm.size ≤ maxLen := by
                have h1 := word_le s 0; rw [HW.out.1, ← HX.out.1] at h1; exact Nat.le_trans (Nat.le_trans h1 HL.out) (by decide)
              obtain ⟨str, c, HTX, hne⟩ : ∃ (str : ByteArray) (c : Int), Sl (∀ W : World, ItoaOK W → Calls Tryz.prog 4 #[.agg p.cells] W fun e w' => e = .returned (.tuple #[.string str, .int .i64 c]) ∧ Below W.heap.size W w') ∧ (c = 0 → str ≠ s) := by
                by_cases hc : p.chk nameS = 0
                · exact ⟨p.txt, 0, ⟨fun W h => (tText_any p hnm W h).mono fun e w' hh => ⟨hh.2.1 hc, hh.2.2⟩⟩, fun _ he => hx ⟨p, hc, he⟩⟩
                · exact ⟨⟨#[]⟩, p.chk nameS, ⟨fun W h => (tText_any p hnm W h).mono fun e w' hh => ⟨hh.1 hc, hh.2.2⟩⟩, fun h => absurd h hc⟩
              clear hx hnm; rcases HV.out with rfl | ⟨⟨te, pe, rfl⟩, _⟩
              · clear HV
                by_cases h0 : c = 0
                · subst h0; have hq0 := hne rfl; have hq1 : (str.toList == s.toList) = false := (by rw [beq_eq_false_iff_ne]; exact fun h => hq0 (bytes_eq h))
                  go_wp2_with ((with_reducible show wpList _ _ _ _ _ _); first
                    | (refine wpList_load_whole rfl 26 (.tmp 5) rfl gU rfl 26 p.cells _ XU.out Tryz.underlying26 rfl (size_temper p) ?_))
                  refine (HTX.out _ (fun z V h1 h2 hb => HI.out z V h1 h2 (HB.out.trans (hb.mono HB.out.size)))).mono ?_; rintro e w89 ⟨rfl, hb⟩; replace HB : Sl (Below w.heap.size w w89) := ⟨HB.out.trans (hb.mono HB.out.size)⟩; replace XR : Sl (Blk w89 gR 26 TV0.cells) := ⟨XR.out.below hb XR.out.lt⟩; replace XW : Sl (Blk w89 gW 9 (strs (wordsB s)).toArray) := ⟨XW.out.below hb XW.out.lt⟩; replace XU : Sl (Blk w89 gU 26 p.cells) := ⟨XU.out.below hb XU.out.lt⟩; replace XB : Sl (Blk w89 gB 41 #[.nilIface]) := ⟨XB.out.below hb XB.out.lt⟩; clear hb; have cb := XB.out.cell 0
                  go_wp2_with ((with_reducible show wpList _ _ _ _ _ _); first
                    | (refine wpList_store_whole rfl 26 (.tmp 2) (.tmp 86) rfl gR TV0.cells rfl rfl 26 TV0.cells XR.out rfl (size_temper _) (TV.cells_one _) ?_; rintro w90 zm zs zb; replace HB : Sl (Below w.heap.size w w90) := ⟨below_mv HB.out zm (by have := HB.out.size; have := ORD.out; omega) HB.out.size⟩; replace XW : Sl (Blk w90 gW 9 (strs (wordsB s)).toArray) := ⟨XW.out.mv zm (by have := XW.out.lt; have := ORD.out; omega)⟩; replace XU : Sl (Blk w90 gU 26 p.cells) := ⟨XU.out.mv zm (by have := XU.out.lt; have := ORD.out; omega)⟩; replace XB : Sl (Blk w90 gB 41 #[.nilIface]) := ⟨XB.out.mv zm (by have := XB.out.lt; have := ORD.out; omega)⟩; replace XR : Sl (Blk w90 gR 26 TV0.cells) := ⟨zb⟩; clear zm zs zb))
                  refine bodyPost_ret (results_rowR rfl _ _ gR _ _ _ rfl XR.out Tryz.underlying26 rfl (size_temper _)) rfl ?_; exact ⟨by rw [HQ.out]; rfl, HB.out⟩
                · have hz : ((c : Int) != 0) = true := (by rw [bne_iff_ne]; exact h0)
                  go_wp2_with ((with_reducible show wpList _ _ _ _ _ _); first
                    | (refine wpList_load_whole rfl 26 (.tmp 5) rfl gU rfl 26 p.cells _ XU.out Tryz.underlying26 rfl (size_temper p) ?_))
                  refine (HTX.out _ (fun z V h1 h2 hb => HI.out z V h1 h2 (HB.out.trans (hb.mono HB.out.size)))).mono ?_; rintro e w101 ⟨rfl, hb⟩; replace HB : Sl (Below w.heap.size w w101) := ⟨HB.out.trans (hb.mono HB.out.size)⟩; replace XR : Sl (Blk w101 gR 26 TV0.cells) := ⟨XR.out.below hb XR.out.lt⟩; replace XW : Sl (Blk w101 gW 9 (strs (wordsB s)).toArray) := ⟨XW.out.below hb XW.out.lt⟩; replace XU : Sl (Blk w101 gU 26 p.cells) := ⟨XU.out.below hb XU.out.lt⟩; replace XB : Sl (Blk w101 gB 41 #[.nilIface]) := ⟨XB.out.below hb XB.out.lt⟩; clear hb; have cb := XB.out.cell 0
                  go_wp2_with ((with_reducible show wpList _ _ _ _ _ _); first
                    | (refine wpList_store_whole rfl 26 (.tmp 2) (.tmp 86) rfl gR TV0.cells rfl rfl 26 TV0.cells XR.out rfl (size_temper _) (TV.cells_one _) ?_; rintro w102 zm zs zb; replace HB : Sl (Below w.heap.size w w102) := ⟨below_mv HB.out zm (by have := HB.out.size; have := ORD.out; omega) HB.out.size⟩; replace XW : Sl (Blk w102 gW 9 (strs (wordsB s)).toArray) := ⟨XW.out.mv zm (by have := XW.out.lt; have := ORD.out; omega)⟩; replace XU : Sl (Blk w102 gU 26 p.cells) := ⟨XU.out.mv zm (by have := XU.out.lt; have := ORD.out; omega)⟩; replace XB : Sl (Blk w102 gB 41 #[.nilIface]) := ⟨XB.out.mv zm (by have := XB.out.lt; have := ORD.out; omega)⟩; replace XR : Sl (Blk w102 gR 26 TV0.cells) := ⟨zb⟩; clear zm zs zb))
                  refine bodyPost_ret (results_rowR rfl _ _ gR _ _ _ rfl XR.out Tryz.underlying26 rfl (size_temper _)) rfl ?_; exact ⟨by rw [HQ.out]; rfl, HB.out⟩
              · clear HV
                go_wp2_with ((with_reducible show wpList _ _ _ _ _ _); first
                  | (refine wpList_load_whole rfl 26 (.tmp 5) rfl gU rfl 26 p.cells _ XU.out Tryz.underlying26 rfl (size_temper p) ?_))
                refine (HTX.out _ (fun z V h1 h2 hb => HI.out z V h1 h2 (HB.out.trans (hb.mono HB.out.size)))).mono ?_; rintro e w113 ⟨rfl, hb⟩; replace HB : Sl (Below w.heap.size w w113) := ⟨HB.out.trans (hb.mono HB.out.size)⟩; replace XR : Sl (Blk w113 gR 26 TV0.cells) := ⟨XR.out.below hb XR.out.lt⟩; replace XW : Sl (Blk w113 gW 9 (strs (wordsB s)).toArray) := ⟨XW.out.below hb XW.out.lt⟩; replace XU : Sl (Blk w113 gU 26 p.cells) := ⟨XU.out.below hb XU.out.lt⟩; replace XB : Sl (Blk w113 gB 41 #[.iface te pe]) := ⟨XB.out.below hb XB.out.lt⟩; clear hb; have cb := XB.out.cell 0
                go_wp2_with ((with_reducible show wpList _ _ _ _ _ _); first
                  | (refine wpList_store_whole rfl 26 (.tmp 2) (.tmp 86) rfl gR TV0.cells rfl rfl 26 TV0.cells XR.out rfl (size_temper _) (TV.cells_one _) ?_; rintro w114 zm zs zb; replace HB : Sl (Below w.heap.size w w114) := ⟨below_mv HB.out zm (by have := HB.out.size; have := ORD.out; omega) HB.out.size⟩; replace XW : Sl (Blk w114 gW 9 (strs (wordsB s)).toArray) := ⟨XW.out.mv zm (by have := XW.out.lt; have := ORD.out; omega)⟩; replace XU : Sl (Blk w114 gU 26 p.cells) := ⟨XU.out.mv zm (by have := XU.out.lt; have := ORD.out; omega)⟩; replace XB : Sl (Blk w114 gB 41 #[.iface te pe]) := ⟨XB.out.mv zm (by have := XB.out.lt; have := ORD.out; omega)⟩; replace XR : Sl (Blk w114 gR 26 TV0.cells) := ⟨zb⟩; clear zm zs zb))
                refine bodyPost_ret (results_rowR rfl _ _ gR _ _ _ rfl XR.out Tryz.underlying26 rfl (size_temper _)) rfl ?_; exact ⟨by rw [HQ.out]; rfl, HB.out⟩
    · have hn15 : ((n : Int) != 15) = true := (by rw [bne_iff_ne]; omega)
      have HQ : Sl (r = (TV0, 6)) := ⟨by
        rw [← HR.out]; refine parT_miss HL.out (fun ⟨t, hc, ht⟩ => ?_); have := len_txt hc; rw [ht] at this; have := HN.out
        omega⟩
      go_wp2_with ((with_reducible show wpList _ _ _ _ _ _); first
        | (refine wpList_store_whole rfl 26 (.tmp 2) (.tmp 24) rfl gR TV0.cells rfl rfl 26 TV0.cells XR.out rfl (size_temper _) (TV.cells_one _) ?_; rintro w125 zm zs zb; replace HB : Sl (Below w.heap.size w w125) := ⟨below_mv HB.out zm (by have := HB.out.size; have := ORD.out; omega) HB.out.size⟩; replace XW : Sl (Blk w125 gW 9 (strs (wordsB s)).toArray) := ⟨XW.out.mv zm (by have := XW.out.lt; have := ORD.out; omega)⟩; replace XR : Sl (Blk w125 gR 26 TV0.cells) := ⟨zb⟩; clear zm zs zb))
      refine bodyPost_ret (results_rowR rfl _ _ gR _ _ _ rfl XR.out Tryz.underlying26 rfl (size_temper _)) rfl ?_; exact ⟨by rw [HQ.out]; rfl, HB.out⟩
end Go.Proofs.YtgmpipimancnhaaGreatDoor
namespace Go.Proofs.YtgmpipimancnhaaGreatDoor
open Go.ChangeShapes Go.WideShapes Go.ChangeAt Go.RowKit
set_option linter.unusedVariables false
set_option linter.unusedSimpArgs false
theorem tabT_eq : (Rows.laid_internal_strconv_uint64pow10 : DataW Unit) = Lib.tabData .u64 Lib.pow10Tab := by kernel_rfl
theorem gTabT : Tryz.prog.globalNamed "internal/strconv.uint64pow10" = some 3 := by kernel_rfl
theorem gErrS : Tryz.prog.globalNamed "strconv.ErrSyntax" = some 0 := by kernel_rfl
theorem gErrR : Tryz.prog.globalNamed "strconv.ErrRange" = some 1 := by kernel_rfl
def laidLT : List (String × DataW Unit) := [("math/bits.deBruijn32tab", Rows.laid_math_bits_deBruijn32tab), ("math/bits.deBruijn64tab", Rows.laid_math_bits_deBruijn64tab), ("internal/strconv.uint64pow10", Rows.laid_internal_strconv_uint64pow10), ("unicode/utf8.acceptRanges", Rows.laid_unicode_utf8_acceptRanges), ("strconv.ErrRange", Rows.laid_strconv_ErrRange), ("strconv.ErrSyntax", Rows.laid_strconv_ErrSyntax), ("quintadena/ratios.primes", Rows.laid_quintadena_ratios_primes), ("unicode/utf8.first", Rows.laid_unicode_utf8_first)]
theorem laidLT_pr {W : World} (h : laidMetH Tryz.prog laidLT W) : PrT W := by
  have h1 : laidMet Tryz.prog laidLT W := h; have h2 := h1.tail.tail.tail.tail.tail.tail; rw [tabR_eq] at h2
  obtain ⟨t, e, n, hty, ht, he, hce, hct⟩ : ∃ t e n, (Tryz.prog.globals[4]?).map (·.type) = some t ∧ Tryz.prog.underlying t = some (.array n e) ∧ Tryz.prog.underlying e = some (.int .i64) ∧ Tryz.prog.cellsOf e = 1 ∧ Tryz.prog.cellsOf t = n :=
    ⟨136, 2, 6, by kernel_rfl, by kernel_rfl, by kernel_rfl, by kernel_rfl, by kernel_rfl⟩
  exact Lib.tabIs_of_head gPr hty ht he hce hct h2
theorem laidLT_tab {W : World} (h : laidMetH Tryz.prog laidLT W) : Lib.TabIs Tryz.prog W "internal/strconv.uint64pow10" .u64 Lib.pow10Tab := by
  have h1 : laidMet Tryz.prog laidLT W := h; have h2 := h1.tail.tail; rw [tabT_eq] at h2
  obtain ⟨t, e, n, hty, ht, he, hce, hct⟩ : ∃ t e n, (Tryz.prog.globals[3]?).map (·.type) = some t ∧ Tryz.prog.underlying t = some (.array n e) ∧ Tryz.prog.underlying e = some (.int .u64) ∧ Tryz.prog.cellsOf e = 1 ∧ Tryz.prog.cellsOf t = n :=
    ⟨127, 83, 20, by kernel_rfl, by kernel_rfl, by kernel_rfl, by kernel_rfl, by kernel_rfl⟩
  exact Lib.tabIs_of_head gTabT hty ht he hce hct h2
theorem iface_trod {P : Program} {w : World} {fuel : Nat} {t : TypeId} {cs : List Value} {x : DataW Unit × List MemPlace} (hu : ∃ ms, P.underlying t = some (.interface ms))
    (h : DataW.trod (fun _ => ()) P w 0 (fun _ => true) false fuel t cs = some x) : cs = [.nilIface] ∨ ∃ u v, cs = [.iface u v] := by
  obtain ⟨ms, hu⟩ := hu
  cases fuel with
  | zero => cases h
  | succ fuel =>
    unfold DataW.trod at h; rw [hu] at h; rcases cs with _ | ⟨c, _ | ⟨c2, cs⟩⟩
    · simp at h
    · cases c <;> first | exact .inl rfl | exact .inr ⟨_, _, rfl⟩ | simp at h
    · simp at h
theorem err_cell {W : World} (h : laidMet Tryz.prog laidLT W) {n : String} {d : DataW Unit} {g : Nat} {t : TypeId} (hm : (n, d) ∈ laidLT) (hg : Tryz.prog.globalNamed n = some g) (ht : (Tryz.prog.globals[g]?).map (·.type) = some t) (hu : ∃ ms, Tryz.prog.underlying t = some (.interface ms)) :
    ∃ ev, W.cell? ⟨g, 0, none⟩ = some ev ∧ (ev = .nilIface ∨ ∃ te pe, ev = .iface te pe) := by
  obtain ⟨g', t', cs, fuel, p, hg', ht', hvar, hd⟩ := Lib.laidMet.reads h hm; obtain rfl := Option.some.inj (hg.symm.trans hg'); obtain rfl := Option.some.inj (ht.symm.trans ht'); have hc := World.var?_cell hg hvar 0; rcases iface_trod hu hd with e | ⟨u, v, e⟩
  · have e2 : cs[0]? = some .nilIface := (by rw [← Array.getElem?_toList, e]; rfl); exact ⟨_, hc.trans e2, .inl rfl⟩
  · have e2 : cs[0]? = some (.iface u v) := (by rw [← Array.getElem?_toList, e]; rfl); exact ⟨_, hc.trans e2, .inr ⟨_, _, rfl⟩⟩
theorem laidLT_par {W : World} (h : laidMetH Tryz.prog laidLT W) (hs : W.ShapedOpen Tryz.prog) (h8 : 8 < W.heap.size) : ParOK W := by
  have h1 : laidMet Tryz.prog laidLT W := h; refine ⟨⟨Go.Proofs.cell_of_shapedOpen_int (zero := #[.int .i64 0]) (t := 3) hs (of_decide_eq_true (by kernel_rfl)) (by kernel_rfl) rfl (by kernel_rfl) (by kernel_rfl) Tryz.underlying3, ?_, ?_⟩, h8⟩
  · exact err_cell h1 (n := "strconv.ErrSyntax") (d := Rows.laid_strconv_ErrSyntax) (t := 41) (by unfold laidLT; simp) gErrS (by kernel_rfl) ⟨_, Tryz.underlying41⟩
  · exact err_cell h1 (n := "strconv.ErrRange") (d := Rows.laid_strconv_ErrRange) (t := 41) (by unfold laidLT; simp) gErrR (by kernel_rfl) ⟨_, Tryz.underlying41⟩
theorem laidLT_size {W : World} (h : laidMetH Tryz.prog laidLT W) : 8 < W.heap.size := by
  have h1 : laidMet Tryz.prog laidLT W := h; obtain ⟨g', t', cs, fuel, p, hg', ht', hvar, hd⟩ := Lib.laidMet.reads h1 (n := "math/bits.deBruijn64tab") (d := Rows.laid_math_bits_deBruijn64tab) (by unfold laidLT; simp); have hg : Tryz.prog.globalNamed "math/bits.deBruijn64tab" = some 8 := (by kernel_rfl)
  unfold World.var? at hvar; rw [hg] at hvar; simp only [Option.bind_some] at hvar; rcases Nat.lt_or_ge 8 W.heap.size with h | h
  · exact h
  · rw [Array.getElem?_eq_none h] at hvar; cases hvar
theorem tabT_below {w w' : World} (h : Lib.TabIs Tryz.prog w "internal/strconv.uint64pow10" .u64 Lib.pow10Tab) (hb : Below w.heap.size w w') : Lib.TabIs Tryz.prog w' "internal/strconv.uint64pow10" .u64 Lib.pow10Tab := by
  unfold Lib.TabIs World.var? at h ⊢; rcases hg : Tryz.prog.globalNamed "internal/strconv.uint64pow10" with _ | g
  · rw [hg] at h; cases h
  · rw [hg] at h; simp only [Option.bind_some] at h ⊢
    have hlt : g < w.heap.size := by
      rcases Nat.lt_or_ge g w.heap.size with h' | h'
      · exact h'
      · rw [Array.getElem?_eq_none h'] at h; cases h
    rw [hb.block g hlt]; exact h
theorem itoa_okT {w : World} (h : Lib.TabIs Tryz.prog w "internal/strconv.uint64pow10" .u64 Lib.pow10Tab) : ItoaOK w := fun z W h1 h2 hb => by
  refine (Tryz.strconv_Itoa z (by omega) (by omega) W (tabT_below h hb)).mono ?_; rintro e w2 ⟨rfl, kk, os, rfl⟩; exact ⟨rfl, Lib.below_grow _ W (Nat.le_refl _) kk os⟩
noncomputable def laidWorldT (os : Os) : World := World.laidAll Tryz.prog os laidLT
theorem laid_metT (os : Os) (args : Array Value) : laidMet Tryz.prog laidLT ((laidWorldT os).forCall (fun _ _ => 0) ⟨#[], args, []⟩).memory :=
  laidMet_laidAll args (by kernel_rfl) (by kernel_rfl)
end Go.Proofs.YtgmpipimancnhaaGreatDoor
namespace Go.Proofs.YtgmpipimancnhaaGreatDoor
set_option linter.unusedSimpArgs false
open Go.RowKit
set_option linter.unusedVariables false
def numR (l : List UInt8) (neg : Bool) : Int := if l.length < 1 ∨ 2 < l.length then 99 else match numU l 0 with
  | some n => if neg = true then -n else n
  | none => 99
theorem numV_is (l : List UInt8) : numV l = if l.head? = some 45 then numR l.tail true else numR l false := by
  unfold numV numR
  by_cases h : l.head? = some 45
  · simp only [h, if_true]; rfl
  · simp only [h, if_false]; rfl
theorem fold_none (l : List UInt8) : l.foldl (fun o b => o.bind fun m : Int => if digB b then some (10 * m + ((b.toNat : Int) - 48)) else none) none = none := by
  induction l with
  | nil => rfl
  | cons a l ih => exact ih
theorem numU_take {l : List UInt8} {k : Nat} (hk : k < l.length) : numU (l.take (k + 1)) 0 = (numU (l.take k) 0).bind fun m => if digB l[k] then some (10 * m + ((l[k].toNat : Int) - 48)) else none := by
  unfold numU; rw [List.take_add_one, List.getElem?_eq_getElem hk, List.foldl_append]; rfl
theorem numU_none {l : List UInt8} {k : Nat} (h : numU (l.take k) 0 = none) : numU l 0 = none := by
  have e : l = l.take k ++ l.drop k := (List.take_append_drop k l).symm; unfold numU at h ⊢; rw [e, List.foldl_append, h]; exact fold_none _
theorem byte_at {s : ByteArray} {k : Nat} (h : k < s.size) : ∃ h2 : k < s.data.toList.length, s.data.toList[k] = s[k] := by
  have h2 : k < s.data.toList.length := (by rw [Array.length_toList]; exact h); exact ⟨h2, by rw [Array.getElem_toList]; rfl⟩
def NumK (r : ByteArray) (k : Nat) (n : Int) : Prop := numU (r.data.toList.take k) 0 = some n ∧ 0 ≤ n ∧ (k = 0 → n = 0) ∧ (k = 1 → n ≤ 9) ∧ (k = 2 → n ≤ 99)
theorem NumK.next {r : ByteArray} {k : Nat} {n : Int} (h : NumK r k n) (hk : k < r.size) (hr : r.size ≤ 2) (hd1 : 48 ≤ r[k].toNat) (hd2 : r[k].toNat ≤ 57) : NumK r (k + 1) (10 * n + ((r[k].toNat : Int) - 48)) := by
  obtain ⟨h2, e⟩ := byte_at hk; obtain ⟨a1, a2, a3, a4, a5⟩ := h; refine ⟨?_, by omega, by omega, fun h => ?_, fun h => ?_⟩
  · rw [numU_take h2, a1, e]; have hdg : digB r[k] = true := (by unfold digB; simp; omega); show (if digB r[k] then some (10 * n + ((r[k].toNat : Int) - 48)) else none) = _; rw [if_pos hdg]
  · have := a3 (by omega); omega
  · have := a4 (by omega); omega
theorem NumK.bad {r : ByteArray} {k : Nat} {n : Int} (h : NumK r k n) (hk : k < r.size) (hd : r[k].toNat < 48 ∨ 57 < r[k].toNat) (neg : Bool) : numR r.data.toList neg = 99 := by
  obtain ⟨h2, e⟩ := byte_at hk
  have hn : numU (r.data.toList.take (k + 1)) 0 = none := by
    rw [numU_take h2, h.1, e]; have hdg : ¬ digB r[k] = true := (by unfold digB; simp; omega); show (if digB r[k] then some (10 * n + ((r[k].toNat : Int) - 48)) else none) = _; rw [if_neg hdg]
  unfold numR
  split
  · rfl
  · rw [numU_none hn]
theorem NumK.done {r : ByteArray} {n : Int} (h : NumK r r.size n) (h1 : 1 ≤ r.size) (h2 : r.size ≤ 2) (neg : Bool) : numR r.data.toList neg = if neg = true then -n else n := by
  have e : r.data.toList.length = r.size := (by rw [Array.length_toList]; rfl); have h0 := h.1; rw [← e, List.take_length] at h0; unfold numR; rw [if_neg (by omega), h0]
theorem numR_len {r : ByteArray} (h : r.size < 1 ∨ 2 < r.size) (neg : Bool) : numR r.data.toList neg = 99 := by
  have e : r.data.toList.length = r.size := (by rw [Array.length_toList]; rfl); unfold numR; rw [if_pos (by omega)]
set_option maxHeartbeats 1600000 in
set_option maxRecDepth 100000 in
theorem r5number_any (s : ByteArray) (hs : s.size ≤ 200) (w : World) : Calls Tryz.prog 19 #[.string s] w fun e w' => e = .returned (.int .i64 (numV s.data.toList)) ∧ Below w.heap.size w w' := by
  obtain ⟨z, hz⟩ : ∃ z, numV s.data.toList = z := ⟨_, rfl⟩; rw [hz]; have HZ : Sl _ := ⟨hz⟩; clear hz; have HB : Sl (Below w.heap.size w w) := ⟨Below.refl _ _⟩
  by_cases h0 : s.size = 0
  · have HV : Sl (z = 99) := ⟨by
      rw [← HZ.out, numV_is]; have e : s.data.toList = [] := List.eq_nil_of_length_eq_zero (by rw [Array.length_toList]; exact h0); rw [e]
      rfl⟩
    have hd0 : decide ((0 : Int) < (s.size : Int)) = false := decide_eq_false (by omega); have hd1 : decide ((s.size : Int) < 1) = true := decide_eq_true (by omega); go_enter Tryz.func19, Tryz.ntmps19; go_wp2_with fail; go_ret; exact ⟨by rw [HV.out]; rfl, HB.out⟩
  have h00 : 0 < s.size := (by omega); have hd0 : decide ((0 : Int) < (s.size : Int)) = true := decide_eq_true (by omega)
  have hhd : s.data.toList.head? = some s[0] := by
    obtain ⟨h2, e⟩ := byte_at h00; rw [List.head?_eq_getElem?, List.getElem?_eq_getElem h2, e]
  by_cases h45 : s[0].toNat = 45
  · have e45 : s[0] = 45 := UInt8.toNat_inj.1 h45
    have HR : Sl (numR (s.extract 1 s.size).data.toList true = z) := ⟨by
      rw [← HZ.out, numV_is, hhd, e45, if_pos rfl]; congr 1
      rw [Lib.extract_to_end]; simp⟩
    have q45 : ((s[0].toNat : Int) == 45) = true := (by rw [beq_iff_eq]; omega); have hsr : (s.extract 1 s.size).size ≤ 200 := (by rw [ByteArray.size_extract]; omega); obtain ⟨r, hex⟩ : ∃ r, s.extract 1 s.size = r := ⟨_, rfl⟩; rw [hex] at HR hsr; clear hhd e45 HZ; go_enter Tryz.func19, Tryz.ntmps19
    by_cases h1 : r.size < 1
    · have HV : Sl (z = 99) := ⟨by rw [← HR.out]; exact numR_len (.inl h1) _⟩; have hd1 : decide ((r.size : Int) < 1) = true := decide_eq_true (by omega); clear h1; go_wp2_with fail; go_ret; exact ⟨by rw [HV.out]; rfl, HB.out⟩
    have hd1 : decide ((r.size : Int) < 1) = false := decide_eq_false (by omega)
    by_cases h2 : 2 < r.size
    · have HV : Sl (z = 99) := ⟨by rw [← HR.out]; exact numR_len (.inr h2) _⟩; have hd2 : decide ((2 : Int) < (r.size : Int)) = true := decide_eq_true (by omega); clear h1 h2; go_wp2_with fail; go_ret; exact ⟨by rw [HV.out]; rfl, HB.out⟩
    have hd2 : decide ((2 : Int) < (r.size : Int)) = false := decide_eq_false (by omega); have HLR : Sl (1 ≤ r.size ∧ r.size ≤ 2) := ⟨by omega⟩; clear h1 h2; go_wp2_with fail
    go_loopw [4, 5] (fun s4 s5 wr => ∃ (k : Nat) (n : Int), k ≤ r.size ∧ s5 = .int .i64 k ∧ s4 = .int .i64 n ∧ Sl (NumK r k n) ∧ Sl (Below w.heap.size w wr)) (fun _ s5 _ => r.size - (RowKit.intOf s5).toNat)
    case atStart => exact ⟨0, 0, Nat.zero_le _, rfl, rfl, ⟨⟨rfl, by decide, fun _ => rfl, fun h => by omega, fun h => by omega⟩⟩, HB⟩
    case round =>
      clear HB; obtain ⟨k, n, hk, rfl, rfl, HK, HB⟩ := hrel; have hn0 : 0 ≤ n := HK.out.2.1
      have hn9 : n ≤ 99 := by
        have := HK.out; have := HLR.out; obtain ⟨_, _, b1, b2, b3⟩ := HK.out; rcases (show k = 0 ∨ k = 1 ∨ k = 2 by omega) with h | h | h
        · have := b1 h; omega
        · have := b2 h; omega
        · exact b3 h
      by_cases hlt : k < r.size
      · have hk2 : k ≤ 1 := (by have := HLR.out; omega); have hb8 : (r[k].toNat : Int) < 256 := (by have := r[k].toNat_lt; omega)
        by_cases g1 : r[k].toNat < 48
        · have HV : Sl (z = 99) := ⟨by rw [← HR.out]; exact HK.out.bad hlt (.inl g1) _⟩; have e1 : decide ((r[k].toNat : Int) < 48) = true := decide_eq_true (by omega); go_wp2_with fail; go_ret; exact ⟨by rw [HV.out]; rfl, HB.out⟩
        · have e1 : decide ((r[k].toNat : Int) < 48) = false := decide_eq_false (by omega)
          by_cases g2 : 57 < r[k].toNat
          · have HV : Sl (z = 99) := ⟨by rw [← HR.out]; exact HK.out.bad hlt (.inr g2) _⟩; have e2 : decide ((57 : Int) < (r[k].toNat : Int)) = true := decide_eq_true (by omega); go_wp2_with fail; go_ret; exact ⟨by rw [HV.out]; rfl, HB.out⟩
          · have e2 : decide ((57 : Int) < (r[k].toNat : Int)) = false := decide_eq_false (by omega); have HNX : Sl (NumK r (k + 1) (10 * n + ((r[k].toNat : Int) - 48))) := ⟨HK.out.next hlt HLR.out.2 (by omega) (by omega)⟩
            have hn90 : n ≤ 9 := by
              obtain ⟨_, _, b1, b2, b3⟩ := HK.out; rcases (show k = 0 ∨ k = 1 by omega) with h | h
              · have := b1 h; omega
              · have := b2 h; omega
            have g1' : 48 ≤ r[k].toNat := (by omega); have g2' : r[k].toNat ≤ 57 := (by omega); clear hn9; go_wp2_with fail; exact ⟨⟨k + 1, _, hlt, by go_num, rfl, HNX, HB⟩, by simp [RowKit.intOf]; omega⟩
      · obtain rfl : k = r.size := (by omega); have HV : Sl (-n = z) := ⟨by rw [← HR.out]; exact (HK.out.done HLR.out.1 HLR.out.2 true).symm⟩; go_wp2_with fail; go_ret; exact ⟨by rw [← HV.out]; rfl, HB.out⟩
  · have HR : Sl (numR s.data.toList false = z) := ⟨by
      rw [← HZ.out, numV_is, hhd, if_neg (fun h => h45 (by injection h with h; rw [h]; rfl))]⟩
    have q45 : ((s[0].toNat : Int) == 45) = false := (by rw [beq_eq_false_iff_ne]; omega); clear hhd HZ; go_enter Tryz.func19, Tryz.ntmps19
    by_cases h1 : s.size < 1
    · have HV : Sl (z = 99) := ⟨by rw [← HR.out]; exact numR_len (.inl h1) _⟩; have hd1 : decide ((s.size : Int) < 1) = true := decide_eq_true (by omega); clear h1; go_wp2_with fail; go_ret; exact ⟨by rw [HV.out]; rfl, HB.out⟩
    have hd1 : decide ((s.size : Int) < 1) = false := decide_eq_false (by omega)
    by_cases h2 : 2 < s.size
    · have HV : Sl (z = 99) := ⟨by rw [← HR.out]; exact numR_len (.inr h2) _⟩; have hd2 : decide ((2 : Int) < (s.size : Int)) = true := decide_eq_true (by omega); clear h1 h2; go_wp2_with fail; go_ret; exact ⟨by rw [HV.out]; rfl, HB.out⟩
    have hd2 : decide ((2 : Int) < (s.size : Int)) = false := decide_eq_false (by omega); have HLR : Sl (1 ≤ s.size ∧ s.size ≤ 2) := ⟨by omega⟩; clear h1 h2; go_wp2_with fail
    go_loopw [4, 5] (fun s4 s5 wr => ∃ (k : Nat) (n : Int), k ≤ s.size ∧ s5 = .int .i64 k ∧ s4 = .int .i64 n ∧ Sl (NumK s k n) ∧ Sl (Below w.heap.size w wr)) (fun _ s5 _ => s.size - (RowKit.intOf s5).toNat)
    case atStart => exact ⟨0, 0, Nat.zero_le _, rfl, rfl, ⟨⟨rfl, by decide, fun _ => rfl, fun h => by omega, fun h => by omega⟩⟩, HB⟩
    case round =>
      clear HB; obtain ⟨k, n, hk, rfl, rfl, HK, HB⟩ := hrel; have hn0 : 0 ≤ n := HK.out.2.1
      have hn9 : n ≤ 99 := by
        have := HK.out; have := HLR.out; obtain ⟨_, _, b1, b2, b3⟩ := HK.out; rcases (show k = 0 ∨ k = 1 ∨ k = 2 by omega) with h | h | h
        · have := b1 h; omega
        · have := b2 h; omega
        · exact b3 h
      by_cases hlt : k < s.size
      · have hk2 : k ≤ 1 := (by have := HLR.out; omega); have hb8 : (s[k].toNat : Int) < 256 := (by have := s[k].toNat_lt; omega)
        by_cases g1 : s[k].toNat < 48
        · have HV : Sl (z = 99) := ⟨by rw [← HR.out]; exact HK.out.bad hlt (.inl g1) _⟩; have e1 : decide ((s[k].toNat : Int) < 48) = true := decide_eq_true (by omega); go_wp2_with fail; go_ret; exact ⟨by rw [HV.out]; rfl, HB.out⟩
        · have e1 : decide ((s[k].toNat : Int) < 48) = false := decide_eq_false (by omega)
          by_cases g2 : 57 < s[k].toNat
          · have HV : Sl (z = 99) := ⟨by rw [← HR.out]; exact HK.out.bad hlt (.inr g2) _⟩; have e2 : decide ((57 : Int) < (s[k].toNat : Int)) = true := decide_eq_true (by omega); go_wp2_with fail; go_ret; exact ⟨by rw [HV.out]; rfl, HB.out⟩
          · have e2 : decide ((57 : Int) < (s[k].toNat : Int)) = false := decide_eq_false (by omega); have HNX : Sl (NumK s (k + 1) (10 * n + ((s[k].toNat : Int) - 48))) := ⟨HK.out.next hlt HLR.out.2 (by omega) (by omega)⟩
            have hn90 : n ≤ 9 := by
              obtain ⟨_, _, b1, b2, b3⟩ := HK.out; rcases (show k = 0 ∨ k = 1 by omega) with h | h
              · have := b1 h; omega
              · have := b2 h; omega
            have g1' : 48 ≤ s[k].toNat := (by omega); have g2' : s[k].toNat ≤ 57 := (by omega); clear hn9; go_wp2_with fail; exact ⟨⟨k + 1, _, hlt, by go_num, rfl, HNX, HB⟩, by simp [RowKit.intOf]; omega⟩
      · obtain rfl : k = s.size := (by omega); have HV : Sl (n = z) := ⟨by rw [← HR.out]; exact (HK.out.done HLR.out.1 HLR.out.2 false).symm⟩; go_wp2_with fail; go_ret; exact ⟨by rw [← HV.out]; rfl, HB.out⟩
end Go.Proofs.YtgmpipimancnhaaGreatDoor
namespace Go.Proofs.YtgmpipimancnhaaGreatDoor
set_option linter.unusedSimpArgs false
open Go.RowKit
set_option linter.unusedVariables false
section
variable {P : Program} {ops : Array Oper} {Q : Exit → Act → World → Prop} {md : Region.Mode} {S : World → Prop}
end
end Go.Proofs.YtgmpipimancnhaaGreatDoor
namespace Go.Proofs.YtgmpipimancnhaaGreatDoor
set_option linter.unusedSimpArgs false
open Go.RowKit
set_option linter.unusedVariables false
attribute [-simp] Tryz.isAgg69 Tryz.isAgg26 Tryz.isAgg24 Tryz.isAgg23
theorem take_snoc {l : List UInt8} {k : Nat} (hk : k < l.length) : l.take (k + 1) = l.take k ++ [l[k]] := by
  rw [List.take_add_one, List.getElem?_eq_getElem hk]; rfl
theorem at_split {l : List UInt8} {k : Nat} (hk : k < l.length) : l = l.take k ++ l[k] :: l.drop (k + 1) := by
  conv => lhs; rw [← List.take_append_drop k l]
  rw [List.drop_eq_getElem_cons hk]
def NoB (c : UInt8) (s : ByteArray) (k : Nat) : Prop := c ∉ s.data.toList.take k
theorem NoB.next {c : UInt8} {s : ByteArray} {k : Nat} (h : NoB c s k) (hk : k < s.size) (hc : s[k].toNat ≠ c.toNat) : NoB c s (k + 1) := by
  obtain ⟨h2, e⟩ := byte_at hk; unfold NoB; rw [take_snoc h2, e]; intro hm; rcases List.mem_append.1 hm with h' | h'
  · exact h h'
  · have := List.mem_singleton.1 h'; exact hc (by rw [← this])
theorem NoB.cut {s : ByteArray} {k : Nat} (h : NoB 47 s k) (hk : k < s.size) (hc : s[k].toNat = 47) : cutN s = ((s.extract 0 k).data.toList, (s.extract (k + 1) s.size).data.toList, true) := by
  obtain ⟨h2, e⟩ := byte_at hk; have e47 : s.data.toList[k] = 47 := (by rw [e]; exact UInt8.toNat_inj.1 hc); have hs := at_split h2; rw [e47] at hs; unfold cutN
  conv => lhs; rw [hs]
  rw [cut_hit h, Lib.extract_from_zero, Lib.extract_to_end]
theorem NoB.uncut {s : ByteArray} (h : NoB 47 s s.size) : cutN s = (s.data.toList, [], false) := by
  have e : s.data.toList.length = s.size := (by rw [Array.length_toList]; rfl); unfold NoB at h; rw [← e, List.take_length] at h; unfold cutN; exact cut_no h
theorem alloc_part0 (w : World) : (Instr.alloc 23 true (.tuple #[])).run Tryz.prog w = .ok (.pointer (some ⟨w.heap.size, 0, none⟩)) (w.alloc (.cells #[.int .i64 0, .int .i64 0] 23)) := by kernel_rfl
set_option maxHeartbeats 1600000 in
set_option maxRecDepth 100000 in
theorem r5part_any (s : ByteArray) (hs : s.size ≤ 200) (w : World) : Calls Tryz.prog 20 #[.string s] w fun e w' => e = .returned (.agg #[.int .i64 (numV (cutN s).1), .int .i64 (if (cutN s).2.2 = true then numV (cutN s).2.1 else 1)]) ∧ Below w.heap.size w w' := by
  have HB : Sl (Below w.heap.size w w) := ⟨Below.refl _ _⟩; obtain ⟨x, hx⟩ : ∃ x, numV (cutN s).1 = x := ⟨_, rfl⟩; obtain ⟨y, hy⟩ : ∃ y, (if (cutN s).2.2 = true then numV (cutN s).2.1 else 1) = y := ⟨_, rfl⟩; rw [hx, hy]; have HX : Sl _ := ⟨And.intro hx hy⟩; have HS : Sl (s.size ≤ 200) := ⟨hs⟩; clear hx hy; go_enter Tryz.func20, Tryz.ntmps20
  go_wp2_with ((with_reducible show wpList _ _ _ _ _ _); first
    | (refine wpList_alloc_new 2 rfl rfl 23 rfl #[.int .i64 0, .int .i64 0] alloc_part0 ?_; rintro w1 gR zg zm zs zb; have ORD : Sl (w.heap.size ≤ gR) := ⟨by have := HB.out.size; omega⟩; replace HB : Sl (Below w.heap.size w w1) := ⟨below_mv HB.out zm (by have := HB.out.size; have := ORD.out; omega) HB.out.size⟩; have XR : Sl (Blk w1 gR 23 #[.int .i64 0, .int .i64 0]) := ⟨zb⟩; clear zg zm zs zb))
  go_loopw [3] (fun s3 wr => ∃ k : Nat, k ≤ s.size ∧ s3 = .int .i64 k ∧ Sl (NoB 47 s k) ∧ Sl (Below w.heap.size w wr) ∧ Sl (Blk wr gR 23 #[.int .i64 0, .int .i64 0])) (fun s3 _ => s.size - (RowKit.intOf s3).toNat)
  case atStart => exact ⟨0, Nat.zero_le _, rfl, ⟨by unfold NoB; simp⟩, HB, XR⟩
  case round =>
    clear HB XR; obtain ⟨k, hk, rfl, HK, HB, XR⟩ := hrel
    by_cases hlt : k < s.size
    · have hb8 : (s[k].toNat : Int) < 256 := (by have := s[k].toNat_lt; omega)
      by_cases h47 : s[k].toNat = 47
      · have q47 : ((s[k].toNat : Int) == 47) = true := (by rw [beq_iff_eq]; omega); have HCC := HK.out.cut hlt h47; have h1 : (s.extract 0 k).size ≤ 200 := (by rw [ByteArray.size_extract]; omega); have h2 : (s.extract (k + 1) s.size).size ≤ 200 := (by rw [ByteArray.size_extract]; omega); obtain ⟨ra, hra⟩ : ∃ r, s.extract 0 k = r := ⟨_, rfl⟩; obtain ⟨rb, hrb⟩ : ∃ r, s.extract (k + 1) s.size = r := ⟨_, rfl⟩; rw [hra] at h1; rw [hrb] at h2; rw [hra, hrb] at HCC; have HNA : Sl _ := ⟨fun V : World => r5number_any ra h1 V⟩; have HNB : Sl _ := ⟨fun V : World => r5number_any rb h2 V⟩; obtain ⟨a, ha⟩ : ∃ z, numV ra.data.toList = z := ⟨_, rfl⟩; obtain ⟨b, hb0⟩ : ∃ z, numV rb.data.toList = z := ⟨_, rfl⟩; rw [ha] at HNA; rw [hb0] at HNB
        have HV : Sl (x = a ∧ y = b) := ⟨by
          rw [← HX.out.1, ← HX.out.2, HCC]
          exact ⟨ha, hb0⟩⟩
        clear ha hb0 h1 h2 HCC; go_wp2_with fail; have qk0 : (0 : Int) ≤ (k : Int) := (by omega); have qk1 : (0 : Int) ≤ (k : Int) + 1 := (by omega); have qk2 : (k : Int) + 1 ≤ (s.size : Int) := (by omega); have qk4 : (k : Int) < 200 := (by have := HS.out; omega); have qk5 : IntKind.i64.wrap ((k : Int) + 1) = (k : Int) + 1 := (by rw [IntKind.wrap_i64]; omega); have qk3 : ¬ (s.size : Int) < (k : Int) + 1 := (by omega); have hm : Mv gR wr wr.drew := Mv.drew _ _; have hs : RowKit.Below wr.heap.size wr wr.drew := below_drewN (Below.refl _ _) 1; have HSW : Sl _ := ⟨hs⟩; clear hs; refine wp_region_held_drew (S := fun w' => Mv gR wr w') (by kernel_rfl) hm (fun hHeld => ?_); clear hm; refine wpAnyH_pure 0 (v := .string s) rfl (by kernel_rfl) (by kernel_rfl) (by kernel_rfl) (fun _ _ _ h => h) rfl (fun _ => rfl) (by assumption) ?_; simp only [Act.put, sS0, sS1, sS2]; refine wpAnyH_pure 1 (v := .int .i64 (k : Int)) rfl (by kernel_rfl) (by kernel_rfl) (by kernel_rfl) (fun _ _ _ h => h) rfl (fun _ => rfl) (by assumption) ?_; simp only [Act.put, sS0, sS1, sS2]; refine wpAnyH_pure 2 (v := .string ra) rfl (by kernel_rfl) (by kernel_rfl) (by kernel_rfl) (fun _ _ _ h => h) rfl (fun _ => by go_simp) (by assumption) ?_; simp only [Act.put, sS0, sS1, sS2]; refine wpAnyH_pure 4 (v := .string s) rfl (by kernel_rfl) (by kernel_rfl) (by kernel_rfl) (fun _ _ _ h => h) rfl (fun _ => rfl) (by assumption) ?_; simp only [Act.put, sS0, sS1, sS2]; refine wpAnyH_pure 5 (v := .int .i64 (k : Int)) rfl (by kernel_rfl) (by kernel_rfl) (by kernel_rfl) (fun _ _ _ h => h) rfl (fun _ => rfl) (by assumption) ?_; simp only [Act.put, sS0, sS1, sS2]; refine wpAnyH_pure 6 (v := .int .i64 ((k : Int) + 1)) rfl (by kernel_rfl) (by kernel_rfl) (by kernel_rfl) (fun _ _ _ h => h) rfl (fun _ => by go_simp; try go_num) (by assumption) ?_; simp only [Act.put, sS0, sS1, sS2]; refine wpAnyH_pure 7 (v := .string rb) rfl (by kernel_rfl) (by kernel_rfl) (by kernel_rfl) (fun _ _ _ h => h) rfl (fun _ => by go_simp) (by assumption) ?_; simp only [Act.put, sS0, sS1, sS2]; refine wpAnyH_one 3 rfl (by kernel_rfl) rfl (fun K hK => ?_); go_simp; go_at_call 19
        (with_reducible refine (HNA.out _).mono ?_)
        rintro e z2 ⟨rfl, hb⟩; replace HSW : Sl (RowKit.Below wr.heap.size wr z2) := ⟨HSW.out.trans (hb.mono HSW.out.size)⟩; refine hK.out _ _ (Mv.below HSW.out) (fun hHeld => ?_); clear hK K hb
        (try simp only [Act.put, sS0, sS1, sS2])
        refine wpAnyH_one 8 rfl (by kernel_rfl) rfl (fun K hK => ?_); go_simp; go_at_call 19
        (with_reducible refine (HNB.out _).mono ?_)
        rintro e z3 ⟨rfl, hb⟩; replace HSW : Sl (RowKit.Below wr.heap.size wr z3) := ⟨HSW.out.trans (hb.mono HSW.out.size)⟩; refine hK.out _ _ (Mv.below HSW.out) (fun hHeld => ?_); clear hK K hb
        (try simp only [Act.put, sS0, sS1, sS2])
        refine wpAnyH_pure 9 (v := .agg #[.int .i64 a, .int .i64 b]) rfl (by kernel_rfl) (by kernel_rfl) (by kernel_rfl) (fun _ _ _ h => h) rfl (fun _ => by first | kernel_rfl | rfl | go_simp) (by assumption) ?_; simp only [Act.put, sS0, sS1, sS2]; refine wpAnyH_one 10 rfl (by kernel_rfl) rfl (fun K hK => ?_); refine wp_store_part 23 (.tmp 2) (.tmp 23) rfl gR (0) #[.int .i64 a, .int .i64 b] rfl rfl 23 #[.int .i64 0, .int .i64 0] #[.int .i64 a, .int .i64 b] (XR.out.below HSW.out XR.out.lt) (Nat.le_refl 2) (putA_all _ _ rfl) (size_part _ _) (part_one _ _) ?_; rintro w4 zm zs zb; refine hK.out _ _ (Mv.trans (Mv.below HSW.out) zm) (fun hHeld => ?_); clear hK K; simp only [Act.put, sS0, sS1, sS2]; refine wpAnyH_done (by kernel_rfl) ?_ _; replace HB : Sl (Below w.heap.size w w4) := ⟨below_mv HB.out hHeld (by have := HB.out.size; have := ORD.out; omega) HB.out.size⟩; replace XR : Sl (Blk w4 gR 23 #[.int .i64 a, .int .i64 b]) := ⟨zb⟩; clear zm zs zb HSW; (try clear hHeld); go_wp2_with fail; refine bodyPost_ret (results_cell_row rfl _ _ gR _ _ _ _ rfl XR.out Tryz.underlying23 rfl (size_part _ _)) rfl ?_; exact ⟨by rw [HV.out.1, HV.out.2], HB.out⟩
      · have q47 : ((s[k].toNat : Int) == 47) = false := (by rw [beq_eq_false_iff_ne]; omega); have HKN : Sl (NoB 47 s (k + 1)) := ⟨HK.out.next hlt (fun h => h47 (by rw [h]; rfl))⟩; go_wp2_with fail; exact ⟨⟨k + 1, hlt, by go_num, HKN, HB, XR⟩, by simp [RowKit.intOf]; omega⟩
    · obtain rfl : k = s.size := (by omega); have HCC := HK.out.uncut; have HNA : Sl _ := ⟨fun V : World => r5number_any s HS.out V⟩; obtain ⟨a, ha⟩ : ∃ z, numV s.data.toList = z := ⟨_, rfl⟩; rw [ha] at HNA
      have HV : Sl (x = a ∧ y = 1) := ⟨by
        rw [← HX.out.1, ← HX.out.2, HCC]
        exact ⟨ha, rfl⟩⟩
      clear ha HCC; go_wp2_with fail; refine (HNA.out _).mono ?_; rintro e w25 ⟨rfl, hb⟩; replace HB : Sl (Below w.heap.size w w25) := ⟨HB.out.trans (hb.mono HB.out.size)⟩; replace XR : Sl (Blk w25 gR 23 #[.int .i64 0, .int .i64 0]) := ⟨XR.out.below hb XR.out.lt⟩; clear hb
      go_wp2_with ((with_reducible show wpList _ _ _ _ _ _); first
        | (refine wpList_store_whole rfl 23 (.tmp 2) (.tmp 26) rfl gR #[.int .i64 a, .int .i64 1] rfl rfl 23 #[.int .i64 0, .int .i64 0] XR.out rfl (size_part _ _) (part_one _ _) ?_; rintro w26 zm zs zb; replace HB : Sl (Below w.heap.size w w26) := ⟨below_mv HB.out zm (by have := HB.out.size; have := ORD.out; omega) HB.out.size⟩; replace XR : Sl (Blk w26 gR 23 #[.int .i64 a, .int .i64 1]) := ⟨zb⟩; clear zm zs zb))
      refine bodyPost_ret (results_cell_row rfl _ _ gR _ _ _ _ rfl XR.out Tryz.underlying23 rfl (size_part _ _)) rfl ?_; exact ⟨by rw [HV.out.1, HV.out.2], HB.out⟩
theorem ext_list (s : ByteArray) (a b : Nat) : (s.extract a b).data.toList = (s.data.toList.drop a).take (b - a) := by
  rw [Lib.extract_data]
structure WJ (s : ByteArray) (i a : Nat) (L : List ByteArray) : Prop where
  le : a ≤ i
  top : i ≤ s.size + 1
  len : L.length ≤ i
  mid : i ≤ s.size → L.map (·.data.toList) ++ spl 32 (s.data.toList.drop a) = spl 32 s.data.toList ∧ (32 : UInt8) ∉ (s.data.toList.drop a).take (i - a)
  fin : i = s.size + 1 → L = wordsB s
theorem WJ.zero (s : ByteArray) : WJ s 0 0 [] := ⟨Nat.le_refl _, Nat.zero_le _, Nat.le_refl _, fun _ => ⟨rfl, by simp⟩, fun h => by omega⟩
theorem mid_split {l : List UInt8} {a i : Nat} (ha : a ≤ i) (hi : i < l.length) : l.drop a = (l.drop a).take (i - a) ++ l[i] :: l.drop (i + 1) := by
  have h2 : i - a < (l.drop a).length := (by rw [List.length_drop]; omega); have h := at_split h2; rw [List.getElem_drop, List.drop_drop] at h; have e1 : a + (i - a) = i := (by omega); have e2 : a + (i - a + 1) = i + 1 := (by omega); simp only [e1, e2] at h; exact h
theorem WJ.go {s : ByteArray} {i a : Nat} {L : List ByteArray} (h : WJ s i a L) (hi : i < s.size) (hc : s[i].toNat ≠ 32) : WJ s (i + 1) a L := by
  obtain ⟨h2, e⟩ := byte_at hi; have hm := h.mid (by omega); refine ⟨by have := h.le; omega, by omega, by have := h.len; omega, fun _ => ⟨hm.1, ?_⟩, fun h => by omega⟩; have ha := h.le; have h3 : i - a < (s.data.toList.drop a).length := (by rw [List.length_drop]; omega); have e1 : i + 1 - a = i - a + 1 := (by omega); rw [e1, take_snoc h3]; intro hx; rcases List.mem_append.1 hx with h' | h'
  · exact hm.2 h'
  · have h4 := List.mem_singleton.1 h'; rw [List.getElem_drop] at h4; have e2 : a + (i - a) = i := (by omega); simp only [e2] at h4; rw [e] at h4; exact hc (by rw [← h4]; rfl)
theorem WJ.cut {s : ByteArray} {i a : Nat} {L : List ByteArray} (h : WJ s i a L) (hi : i < s.size) (hc : s[i].toNat = 32) : WJ s (i + 1) (i + 1) (L ++ [s.extract a i]) := by
  obtain ⟨h2, e⟩ := byte_at hi; have hm := h.mid (by omega); refine ⟨Nat.le_refl _, by omega, by rw [List.length_append]; have := h.len; simp; omega, fun _ => ⟨?_, by simp⟩, fun h => by omega⟩; have hs := mid_split h.le h2; rw [e, show s[i] = 32 from UInt8.toNat_inj.1 hc] at hs; rw [← hm.1]
  conv => rhs; rw [hs, spl_hit _ hm.2]
  rw [List.map_append, List.map_cons, List.map_nil, ext_list]; simp
theorem WJ.last {s : ByteArray} {a : Nat} {L : List ByteArray} (h : WJ s s.size a L) : WJ s (s.size + 1) (s.size + 1) (L ++ [s.extract a s.size]) := by
  have hm := h.mid (Nat.le_refl _); have hl : s.data.toList.length = s.size := (by rw [Array.length_toList]; rfl); refine ⟨Nat.le_refl _, Nat.le_refl _, by rw [List.length_append]; have := h.len; simp; omega, fun h => by omega, fun _ => ?_⟩; have e : (s.data.toList.drop a).take (s.size - a) = s.data.toList.drop a := List.take_of_length_le (by rw [List.length_drop]; omega); rw [e] at hm
  have h2 : (L ++ [s.extract a s.size]).map (·.data.toList) = spl 32 s.data.toList := by
    rw [List.map_append, List.map_cons, List.map_nil, ext_list, e, ← hm.1, spl_no hm.2]
  unfold wordsB; rw [← h2, map_bytes]
set_option maxHeartbeats 1600000 in
set_option maxRecDepth 100000 in
theorem r5words_any (s : ByteArray) (hs : s.size ≤ 200) (w : World) : Calls Tryz.prog 18 #[.string s] w fun e w' => (∃ v, e = .returned v ∧ Sl (w'.ownsRow w.heap.size 9 1 v (wordsB s).length (strs (wordsB s)))) ∧ Below w.heap.size w w' := by
  have HB : Sl (Below w.heap.size w w) := ⟨Below.refl _ _⟩; have HS : Sl (s.size ≤ 200) := ⟨hs⟩; obtain ⟨i0, hi0, hz0, hz1, hz2⟩ := info_str; have HI : Sl _ := ⟨And.intro hi0 (And.intro hz0 (And.intro hz1 hz2))⟩; clear hi0 hz0 hz1 hz2; go_enter Tryz.func18, Tryz.ntmps18; go_wp2_with fail
  go_loopw [3, 4, 5] (fun s3 s4 s5 wr => ∃ (i a : Nat) (L : List ByteArray), s5 = .int .i64 i ∧ s4 = .int .i64 a ∧ Sl (WJ s i a L) ∧ Sl (Below w.heap.size w wr) ∧ Sl (wr.ownsRow w.heap.size 9 1 s3 L.length (strs L))) (fun _ _ s5 _ => s.size + 1 - (RowKit.intOf s5).toNat)
  case atStart => exact ⟨0, 0, [], rfl, rfl, ⟨WJ.zero s⟩, HB, ⟨World.ownsRow_nil _ _ _ _⟩⟩
  case round =>
    clear HB; obtain ⟨i, a, L, rfl, rfl, HJ, HB, XO⟩ := hrel; have hle := HJ.out.le; have htop := HJ.out.top; have hlen := HJ.out.len; have hia0 : (0 : Int) ≤ (a : Int) := (by omega); have hia1 : (a : Int) ≤ (i : Int) := (by omega)
    by_cases htop2 : i = s.size + 1
    · have HL : Sl (L = wordsB s) := ⟨HJ.out.fin htop2⟩; have hq : decide ((i : Int) ≤ (s.size : Int)) = false := decide_eq_false (by omega); have hx : ¬ ((i : Int) ≤ (s.size : Int)) := (by omega); have hx2 : ¬ (i ≤ s.size) := (by omega); have hx3 : decide (i ≤ s.size) = false := decide_eq_false hx2; clear htop2; go_wp2_with fail; go_ret; exact ⟨⟨_, rfl, ⟨by rw [← HL.out]; exact XO.out⟩⟩, HB.out⟩
    have hq : decide ((i : Int) ≤ (s.size : Int)) = true := decide_eq_true (by omega); have hia2 : (i : Int) ≤ (s.size : Int) := (by omega); have hsz : (s.size : Int) ≤ 200 := (by omega); clear htop
    by_cases hi : i = s.size
    · subst hi; have HJN := HJ.out.last; have HN : Sl _ := ⟨HJN⟩; clear HJN
      go_wp2_with ((with_reducible show wpList _ _ _ _ _ _); first
        | (at_builtin; go_loud (refine wpList_append_any _ rfl (.tmp 22) (.tmp 27) _ rfl w.heap.size 9 i0 _ 1 16 Tryz.underlying36 HI.out.1 HI.out.2.1 HI.out.2.2.1 HI.out.2.2.2 rfl (by decide) u3 L.length _ rfl (own_alloc XO.out _) _ (some ⟨wr.heap.size, 0, none⟩) 1 1 [.string (s.extract a s.size)] rfl (reads_s1 _ _ _) (by intro u hu; simp at hu; subst hu; rfl) (by unfold maxLen; have := HS.out; omega) (by omega) (by have := HB.out.size; simp; omega) ?_); rintro v6 wN hown hg hat; have XQ : Sl (wN.ownsRow w.heap.size 9 1 v6 (L ++ [s.extract a s.size]).length (strs (L ++ [s.extract a s.size]))) := ⟨by rw [strs_snoc, List.length_append]; exact hown⟩; have HBN : Sl (Below w.heap.size w wN) := ⟨below_grown2 HB.out HB.out.size XO.out hg⟩; clear hown hg hat))
      exact ⟨⟨s.size + 1, s.size + 1, _, by go_num, by go_num, HN, HBN, XQ⟩, by simp [RowKit.intOf]; try omega⟩
    have hlt : i < s.size := (by omega); have hne : ((i : Int) == (s.size : Int)) = false := (by rw [beq_eq_false_iff_ne]; omega); have hb8 : (s[i].toNat : Int) < 256 := (by have := s[i].toNat_lt; omega)
    by_cases h32 : s[i].toNat = 32
    · have HN : Sl _ := ⟨HJ.out.cut hlt h32⟩; have q32 : ((s[i].toNat : Int) == 32) = true := (by rw [beq_iff_eq]; omega)
      go_wp2_with ((with_reducible show wpList _ _ _ _ _ _); first
        | (at_builtin; go_loud (refine wpList_append_any _ rfl (.tmp 22) (.tmp 27) _ rfl w.heap.size 9 i0 _ 1 16 Tryz.underlying36 HI.out.1 HI.out.2.1 HI.out.2.2.1 HI.out.2.2.2 rfl (by decide) u3 L.length _ rfl (own_alloc XO.out _) _ (some ⟨wr.heap.size, 0, none⟩) 1 1 [.string (s.extract a i)] rfl (reads_s1 _ _ _) (by intro u hu; simp at hu; subst hu; rfl) (by unfold maxLen; have := HS.out; omega) (by omega) (by have := HB.out.size; simp; omega) ?_); rintro v6 wN hown hg hat; have XQ : Sl (wN.ownsRow w.heap.size 9 1 v6 (L ++ [s.extract a i]).length (strs (L ++ [s.extract a i]))) := ⟨by rw [strs_snoc, List.length_append]; exact hown⟩; have HBN : Sl (Below w.heap.size w wN) := ⟨below_grown2 HB.out HB.out.size XO.out hg⟩; clear hown hg hat))
      exact ⟨⟨i + 1, i + 1, _, by go_num, by go_num, HN, HBN, XQ⟩, by simp [RowKit.intOf]; try omega⟩
    · have HN : Sl _ := ⟨HJ.out.go hlt h32⟩; have q32 : ((s[i].toNat : Int) == 32) = false := (by rw [beq_eq_false_iff_ne]; omega); go_wp2_with fail; exact ⟨⟨i + 1, a, L, by go_num, rfl, HN, HB, XO⟩, by simp [RowKit.intOf]; try omega⟩
end Go.Proofs.YtgmpipimancnhaaGreatDoor
namespace Go.Proofs.YtgmpipimancnhaaGreatDoor
set_option linter.unusedSimpArgs false
open Go.RowKit
set_option linter.unusedVariables false
attribute [-simp] Tryz.isAgg69 Tryz.isAgg26 Tryz.isAgg24 Tryz.isAgg23
def dB (d : Nat) : ByteArray := ⟨#[UInt8.ofNat (48 + d)]⟩
theorem ten_at {d : Nat} (h : d < 10) : (⟨#[48, 49, 50, 51, 52, 53, 54, 55, 56, 57]⟩ : ByteArray).extract d (d + 1) = dB d := by
  rcases (show d = 0 ∨ d = 1 ∨ d = 2 ∨ d = 3 ∨ d = 4 ∨ d = 5 ∨ d = 6 ∨ d = 7 ∨ d = 8 ∨ d = 9 by omega) with rfl | rfl | rfl | rfl | rfl | rfl | rfl | rfl | rfl | rfl <;> decide +kernel
theorem itB_nat (u : Nat) : itB (u : Int) = ⟨(Lib.decDigits u).toArray⟩ := by
  unfold itB Lib.itoa; rw [if_neg (by omega)]; simp
theorem itB_one {u : Nat} (h : u < 10) : itB (u : Int) = dB u := by
  unfold dB; rw [itB_nat, Lib.decDigits, dif_pos h]
theorem itB_two {u : Nat} (h : 10 ≤ u) : itB (u : Int) = itB ((u / 10 : Nat) : Int) ++ dB (u % 10) := by
  unfold dB; rw [itB_nat, itB_nat, Lib.decDigits, dif_neg (by omega)]; apply ByteArray.ext; simp
theorem itB_neg {u : Nat} (h : 1 ≤ u) : itB (-(u : Int)) = ⟨#[45]⟩ ++ itB (u : Int) := by
  rw [itB_nat]; unfold itB Lib.itoa; rw [if_pos (by omega)]; have e : (-(u : Int)).natAbs = u := (by omega); rw [e]; apply ByteArray.ext; simp
set_option maxHeartbeats 800000 in
set_option maxRecDepth 100000 in
theorem digits1 (u : Nat) (hu : u < 10) (w : World) : Calls Tryz.prog 13 #[.int .i64 (u : Int)] w fun e w' => e = .returned (.string (itB (u : Int))) ∧ Below w.heap.size w w' := by
  have HB : Sl (Below w.heap.size w w) := ⟨Below.refl _ _⟩; have hneg : decide ((u : Int) < 0) = false := decide_eq_false (by omega); obtain ⟨d, hd⟩ : ∃ d, u % 10 = d := ⟨_, rfl⟩; have hd10 : d < 10 := (by omega); have hr : Int.tmod (u : Int) 10 = (d : Int) := (by rw [Int.tmod_eq_emod_of_nonneg (by omega)]; omega); have hx := ten_at hd10; have hlt : decide ((u : Int) < 10) = true := decide_eq_true (by omega); have HX : Sl (itB (u : Int) = dB d) := ⟨by rw [itB_one hu]; congr 1; omega⟩; rw [HX.out]; clear hu hd; go_enter Tryz.func13, Tryz.ntmps13; go_wp2_with fail; go_ret; exact ⟨rfl, HB.out⟩
set_option maxHeartbeats 800000 in
set_option maxRecDepth 100000 in
theorem digits2 (u : Nat) (hu : u < 100) (w : World) : Calls Tryz.prog 13 #[.int .i64 (u : Int)] w fun e w' => e = .returned (.string (itB (u : Int))) ∧ Below w.heap.size w w' := by
  by_cases h10 : u < 10
  · exact digits1 u h10 w
  have HB : Sl (Below w.heap.size w w) := ⟨Below.refl _ _⟩; have hneg : decide ((u : Int) < 0) = false := decide_eq_false (by omega); obtain ⟨d, hd⟩ : ∃ d, u % 10 = d := ⟨_, rfl⟩; have hd10 : d < 10 := (by omega); have hr : Int.tmod (u : Int) 10 = (d : Int) := (by rw [Int.tmod_eq_emod_of_nonneg (by omega)]; omega); have hx := ten_at hd10; have hlt : decide ((u : Int) < 10) = false := decide_eq_false (by omega); have hq : Int.tdiv (u : Int) 10 = ((u / 10 : Nat) : Int) := (by rw [Int.tdiv_eq_ediv_of_nonneg (by omega)]; omega); have HX : Sl (itB (u : Int) = itB ((u / 10 : Nat) : Int) ++ dB d) := ⟨by rw [itB_two (by omega), hd]⟩; rw [HX.out]; have HQ : Sl (u / 10 < 10) := ⟨by omega⟩; clear hu hd h10; generalize u / 10 = q at *
  have hq0 : (0 : Int) ≤ (q : Int) := (by omega); have hq1 : (q : Int) < 10 := (by have := HQ.out; omega); have hl1 := itB_len (z := (q : Int)) (by omega) (by omega); have hl2 : (dB d).size ≤ 1 := Nat.le_refl _; go_enter Tryz.func13, Tryz.ntmps13; go_wp2_with fail
  with_reducible refine (digits1 q HQ.out w).mono ?_; rintro e w1 ⟨rfl, hb⟩
  replace HB : Sl (Below w.heap.size w w1) := ⟨hb⟩; clear hb; go_wp2_with fail; go_ret; exact ⟨rfl, HB.out⟩
set_option maxHeartbeats 800000 in
set_option maxRecDepth 100000 in
theorem digits_any (z : Int) (h1 : -100 < z) (h2 : z < 100) (w : World) : Calls Tryz.prog 13 #[.int .i64 z] w fun e w' => e = .returned (.string (itB z)) ∧ Below w.heap.size w w' := by
  by_cases hz : 0 ≤ z
  · obtain ⟨u, rfl⟩ := Int.eq_ofNat_of_zero_le hz; exact digits2 u (by omega) w
  have HB : Sl (Below w.heap.size w w) := ⟨Below.refl _ _⟩; have hneg : decide (z < 0) = true := decide_eq_true (by omega); obtain ⟨u, hu⟩ := Int.eq_ofNat_of_zero_le (show 0 ≤ -z by omega); have hz2 : -z = (u : Int) := hu
  have HX : Sl (itB z = ⟨#[45]⟩ ++ itB (u : Int)) := ⟨by
    have e : z = -(u : Int) := (by omega)
    rw [e]; exact itB_neg (by omega)⟩
  have HU : Sl (u < 100) := ⟨by omega⟩; rw [HX.out]; clear hu hz; have hu0 : (0 : Int) ≤ (u : Int) := (by omega); have hu1 : (u : Int) < 100 := (by have := HU.out; omega); have hl1 := itB_len (z := (u : Int)) (by omega) (by omega); go_enter Tryz.func13, Tryz.ntmps13; go_wp2_with fail
  with_reducible refine (digits2 u HU.out w).mono ?_; rintro e w1 ⟨rfl, hb⟩
  replace HB : Sl (Below w.heap.size w w1) := ⟨hb⟩; clear hb; go_wp2_with fail; go_ret; exact ⟨rfl, HB.out⟩
def TV.txk (t : TV) (k : Nat) : ByteArray := ⟨(Lib.join ((t.wds k).map (·.data.toList)) [32]).toArray⟩
theorem join_snoc (x : List UInt8) : ∀ (ws : List (List UInt8)), ws ≠ [] → Lib.join (ws ++ [x]) [32] = Lib.join ws [32] ++ 32 :: x
  | [], h => absurd rfl h
  | [a], _ => by
    have e : Lib.join ([a] ++ [x]) [32] = a ++ 32 :: Lib.join [x] [32] := (by simp [Lib.join]); rw [e, Lib.join_one, Lib.join_one]
  | a :: b :: l, _ => by
    have e1 : Lib.join (a :: b :: l ++ [x]) [32] = a ++ 32 :: Lib.join (b :: l ++ [x]) [32] := (by simp [Lib.join]); have e2 : Lib.join (a :: b :: l) [32] = a ++ 32 :: Lib.join (b :: l) [32] := (by simp [Lib.join]); rw [e1, e2, join_snoc x (b :: l) (by simp)]; simp
theorem TV.txk_succ (t : TV) (k : Nat) : t.txk (k + 1) = t.txk k ++ (⟨#[32]⟩ ++ wdB (t.num k) (t.den k)) := by
  unfold TV.txk
  rw [t.wds_succ, List.map_append, List.map_cons, List.map_nil, join_snoc _ _ (fun h => by
    have := congrArg List.length h; rw [List.length_map, t.wds_len] at this
    simp at this)]
  apply ByteArray.ext; simp
theorem TV.txk_zero (t : TV) : t.txk 0 = t.nm ++ ((⟨#[32]⟩ ++ (comB t.syn ++ ⟨#[32]⟩)) ++ itB t.wolf) := by
  unfold TV.txk; have e : (t.wds 0).map (·.data.toList) = [t.nm.data.toList, (comB t.syn).data.toList, (itB t.wolf).data.toList] := rfl; rw [e]; apply ByteArray.ext; simp [Lib.join]
theorem comB_t : (⟨#[32]⟩ ++ (comB true ++ ⟨#[32]⟩) : ByteArray) = ⟨#[32, 115, 121, 110, 116, 111, 110, 105, 99, 32]⟩ := by decide +kernel
theorem comB_f : (⟨#[32]⟩ ++ (comB false ++ ⟨#[32]⟩) : ByteArray) = ⟨#[32, 112, 121, 116, 104, 97, 103, 111, 114, 101, 97, 110, 32]⟩ := by decide +kernel
theorem wdB_len {n d : Int} (h1 : -100 < n ∧ n < 100) (h2 : -100 < d ∧ d < 100) : (wdB n d).size ≤ 9 := by
  have l1 := itB_len (z := n) (by omega) (by omega); have l2 := itB_len (z := d) (by omega) (by omega); unfold wdB
  split
  · rw [ByteArray.size_append, ByteArray.size_append]; have : (⟨#[47]⟩ : ByteArray).size = 1 := rfl; omega
  · omega
theorem TV.txk_size {t : TV} (h : GoodT t) : ∀ k, k ≤ 12 → (t.txk k).size ≤ 40 + 10 * k
  | 0, _ => by
    have h1 := nameS_len h.2.2.1; have c1 : (comB t.syn).size ≤ 11 := (by unfold comB; split <;> decide); have c2 := itB_len (z := t.wolf) (by omega) (by omega); rw [t.txk_zero]; simp only [ByteArray.size_append]; have : (⟨#[32]⟩ : ByteArray).size = 1 := rfl; omega
  | k+1, hk => by
    have ih := TV.txk_size h k (by omega); have hb := bad_bd (h.2.1 k (by omega)); have := wdB_len hb.1 hb.2.1; rw [t.txk_succ, ByteArray.size_append, ByteArray.size_append]; have : (⟨#[32]⟩ : ByteArray).size = 1 := rfl; omega
theorem TV.num_at (t : TV) {k : Nat} (hk : k < 12) : t.cells[3 + k * 2]? = some (.int .i64 (t.num k)) := by
  rcases twelve hk with rfl | rfl | rfl | rfl | rfl | rfl | rfl | rfl | rfl | rfl | rfl | rfl <;> kernel_rfl
theorem TV.den_at2 (t : TV) {k : Nat} (hk : k < 12) : t.cells[3 + k * 2 + 1]? = some (.int .i64 (t.den k)) := by
  rcases twelve hk with rfl | rfl | rfl | rfl | rfl | rfl | rfl | rfl | rfl | rfl | rfl | rfl <;> kernel_rfl
set_option maxHeartbeats 800000 in
set_option maxRecDepth 100000 in
theorem r5Text_any (t : TV) (hs : t.nm.size ≤ maxLen) (w : World) : Calls Tryz.prog 5 #[.agg t.cells] w fun e w' => (t.chk nameS ≠ 0 → e = .returned (.tuple #[.string ⟨#[]⟩, .int .i64 (t.chk nameS)])) ∧ (t.chk nameS = 0 → e = .returned (.tuple #[.string t.txt, .int .i64 0])) ∧ Below w.heap.size w w' := by
  have HB : Sl (Below w.heap.size w w) := ⟨Below.refl _ _⟩; have HCK : Sl (∀ W : World, Calls Tryz.prog 12 #[.agg t.cells] W fun e w' => e = .returned (.int .i64 (t.chk nameS)) ∧ Below W.heap.size W w') := ⟨fun W => r5check_any t W hs⟩; clear hs; obtain ⟨c, hc⟩ : ∃ c, t.chk nameS = c := ⟨_, rfl⟩; rw [hc] at HCK; rw [hc]; have HC : Sl _ := ⟨hc⟩; clear hc; go_enter Tryz.func5, Tryz.ntmps5
  go_wp2_with ((with_reducible show wpList _ _ _ _ _ _); first
    | (refine wpList_box_new 1 rfl rfl 26 (.tmp 0) rfl t.cells rfl (box_temper t) ?_; rintro w1 gT zg zm zs zb; have ORD : Sl (w.heap.size ≤ gT) := ⟨by have := HB.out.size; omega⟩; replace HB : Sl (Below w.heap.size w w1) := ⟨below_mv HB.out zm (by have := HB.out.size; have := ORD.out; omega) HB.out.size⟩; have XT : Sl (Blk w1 gT 26 t.cells) := ⟨zb⟩; clear zg zm zs zb)
    | (refine wpList_load_whole rfl 26 (.tmp 1) rfl gT rfl 26 t.cells _ XT.out Tryz.underlying26 rfl (size_temper t) ?_))
  refine (HCK.out _).mono ?_; rintro e w2 ⟨rfl, hb⟩; replace HB : Sl (Below w.heap.size w w2) := ⟨HB.out.trans (hb.mono HB.out.size)⟩; replace XT : Sl (Blk w2 gT 26 t.cells) := ⟨XT.out.below hb XT.out.lt⟩; clear hb
  by_cases h0 : c = 0
  · subst h0; have HOK : Sl (GoodT t) := ⟨TV.chk_ok HC.out⟩; obtain ⟨hw0, hw1⟩ := HOK.out.1; obtain ⟨W, hW⟩ : ∃ W, t.wolf = W := ⟨_, rfl⟩; rw [hW] at hw0 hw1; obtain ⟨syn, hsyn⟩ : ∃ b, t.syn = b := ⟨_, rfl⟩; have HWS : Sl _ := ⟨And.intro hW hsyn⟩; clear hW hsyn; have hnm := nameS_len HOK.out.2.2.1; have hlw := itB_len (z := W) (by omega) (by omega); have HDW : Sl (∀ V : World, Calls Tryz.prog 13 #[.int .i64 W] V fun e w' => e = .returned (.string (itB W)) ∧ Below V.heap.size V w') := ⟨fun V => digits_any W (by omega) (by omega) V⟩; have cs0 : w2.cell? ⟨gT, 0, none⟩ = some (.string t.nm) := (by rw [XT.out.cell 0, t.cell0]); have cs1 : w2.cell? ⟨gT, 1, none⟩ = some (.bool syn) := (by rw [XT.out.cell 1, t.cell1, HWS.out.2]); have cs2 : w2.cell? ⟨gT, 2, none⟩ = some (.int .i64 W) := (by rw [XT.out.cell 2, t.cell2, HWS.out.1])
    go_upto_if 16 with fail
    go_cut [5] from 17 to 19 (fun s5 wx => Sl (Below w.heap.size w wx) ∧ Sl (Blk wx gT 26 t.cells) ∧ s5 = .string (t.nm ++ (⟨#[32]⟩ ++ (comB syn ++ ⟨#[32]⟩))))
    case first =>
      cases syn
      · go_wp2_with fail
        go_meet
        exact ⟨HB, XT, by rw [comB_f]⟩
      · go_wp2_with fail
        go_meet
        exact ⟨HB, XT, by rw [comB_t]⟩
    case rest =>
      clear HB XT cs0 cs1 cs2; obtain ⟨HB, XT, rfl⟩ := hcut; have cs2 := XT.out.cell 2; rw [t.cell2, HWS.out.1] at cs2; have HZ : Sl ((t.nm ++ (⟨#[32]⟩ ++ (comB syn ++ ⟨#[32]⟩))) ++ itB W = t.txk 0) := ⟨by rw [t.txk_zero, HWS.out.1, HWS.out.2]; apply ByteArray.ext; simp⟩
      have hcz : (t.nm ++ (⟨#[32]⟩ ++ (comB syn ++ ⟨#[32]⟩))).size ≤ 40 := by
        simp only [ByteArray.size_append]; have c1 : (comB syn).size ≤ 11 := (by cases syn <;> decide); have : (⟨#[32]⟩ : ByteArray).size = 1 := rfl; omega
      generalize (t.nm ++ (⟨#[32]⟩ ++ (comB syn ++ ⟨#[32]⟩))) = st at *
      go_wp2_with fail; refine (HDW.out _).mono ?_; rintro e w3 ⟨rfl, hb⟩; replace HB : Sl (Below w.heap.size w w3) := ⟨HB.out.trans (hb.mono HB.out.size)⟩; replace XT : Sl (Blk w3 gT 26 t.cells) := ⟨XT.out.below hb XT.out.lt⟩; clear hb; clear cs2; go_wp2_with fail; have HTS : Sl _ := ⟨TV.txk_size HOK.out⟩
      go_loopw [5, 6] (fun s5 s6 wr => ∃ k : Nat, k ≤ 12 ∧ s6 = .int .i64 k ∧ s5 = .string (t.txk k) ∧ Sl (Below w.heap.size w wr) ∧ Sl (Blk wr gT 26 t.cells)) (fun _ s6 _ => 12 - (RowKit.intOf s6).toNat)
      case atStart => exact ⟨0, by decide, rfl, by rw [← HZ.out], HB, XT⟩
      case round =>
        clear HB XT; obtain ⟨k, hk, rfl, rfl, HB, XT⟩ := hrel
        by_cases hk12 : k < 12
        · have hk0 : (0 : Int) ≤ (k : Int) := (by omega); have hk1 : (k : Int) < 12 := (by omega); obtain ⟨n, hn⟩ : ∃ n, t.num k = n := ⟨_, rfl⟩; obtain ⟨d, hd⟩ : ∃ d, t.den k = d := ⟨_, rfl⟩; have hbad := bad_bd (HOK.out.2.1 k hk12); rw [hn, hd] at hbad; obtain ⟨⟨hn1, hn2⟩, ⟨hd1, hd2⟩, hd3⟩ := hbad; have HND : Sl _ := ⟨And.intro hn hd⟩; have HDN : Sl (∀ V : World, Calls Tryz.prog 13 #[.int .i64 n] V fun e w' => e = .returned (.string (itB n)) ∧ Below V.heap.size V w') := ⟨fun V => digits_any n hn1 hn2 V⟩; have HDD : Sl (∀ V : World, Calls Tryz.prog 13 #[.int .i64 d] V fun e w' => e = .returned (.string (itB d)) ∧ Below V.heap.size V w') := ⟨fun V => digits_any d hd1 hd2 V⟩; have hl1 := itB_len (z := n) (by omega) (by omega); have hl2 := itB_len (z := d) (by omega) (by omega); have hl3 := HTS.out k (by omega); have HNX : Sl (t.txk (k + 1) = t.txk k ++ (⟨#[32]⟩ ++ wdB n d)) := ⟨by rw [t.txk_succ, hn, hd]⟩; have ck0 : wr.cell? ⟨gT, 3 + k * 2, none⟩ = some (.int .i64 n) := (by rw [XT.out.cell, t.num_at hk12, hn]); generalize t.txk k = tk at *
          clear hn hd; go_wp2_with fail; refine (HDN.out _).mono ?_; rintro e w4 ⟨rfl, hb⟩; replace HB : Sl (Below w.heap.size w w4) := ⟨HB.out.trans (hb.mono HB.out.size)⟩; replace XT : Sl (Blk w4 gT 26 t.cells) := ⟨XT.out.below hb XT.out.lt⟩; clear hb; clear ck0; have ck1 : w4.cell? ⟨gT, 3 + k * 2 + 1, none⟩ = some (.int .i64 d) := (by rw [XT.out.cell, t.den_at2 hk12, HND.out.2])
          by_cases h1 : d = 1
          · subst h1; go_wp2_with fail
            exact ⟨⟨k + 1, hk12, by go_num, congrArg Value.string (by
              rw [HNX.out]; unfold wdB; rw [if_neg (by decide)]; apply ByteArray.ext
              simp), HB, XT⟩, by simp [RowKit.intOf]; omega⟩
          · have hd4 : ((d : Int) != 1) = true := (by rw [bne_iff_ne]; exact h1); go_wp2_with fail; refine (HDD.out _).mono ?_; rintro e w15 ⟨rfl, hb⟩; replace HB : Sl (Below w.heap.size w w15) := ⟨HB.out.trans (hb.mono HB.out.size)⟩; replace XT : Sl (Blk w15 gT 26 t.cells) := ⟨XT.out.below hb XT.out.lt⟩; clear hb; clear ck1; go_wp2_with fail
            exact ⟨⟨k + 1, hk12, by go_num, congrArg Value.string (by
              rw [HNX.out]; unfold wdB; rw [if_pos (by omega)]; apply ByteArray.ext
              simp), HB, XT⟩, by simp [RowKit.intOf]; omega⟩
        · obtain rfl : k = 12 := (by omega); clear hk12 hk; go_wp2_with fail; go_ret2; exact ⟨rfl, HB.out⟩
  · have hz : ((c : Int) != 0) = true := (by rw [bne_iff_ne]; exact h0); go_wp2_with fail; go_ret2; exact ⟨fun _ => rfl, fun h => absurd h h0, HB.out⟩
end Go.Proofs.YtgmpipimancnhaaGreatDoor
namespace Go.Proofs.YtgmpipimancnhaaGreatDoor
set_option linter.unusedSimpArgs false
open Go.RowKit
set_option linter.unusedVariables false
attribute [-simp] Tryz.isAgg69 Tryz.isAgg26 Tryz.isAgg24 Tryz.isAgg23
theorem own_blk {w : World} {base n : Nat} {e : TypeId} {v : Value} {L : List ByteArray} (h : w.ownsRow base e 1 v n (strs L)) (hn : 0 < n) :
    ∃ g cap t cs, v = .slice (some ⟨g, 0, none⟩) n cap ∧ base ≤ g ∧ Blk w g t cs ∧ ∀ j, j < n → cs[j]? = some (.string (L.getD j ⟨#[]⟩)) := by
  obtain ⟨hl, h0 | ⟨g, cap, cur, rfl, hb, hh, hnc, _, hcs, htake⟩⟩ := h
  · omega
  · have hlen : L.length = n := (by unfold strs at hl; simpa using hl); refine ⟨g, cap, e, cur, rfl, hb, hh, fun j hj => ?_⟩; have e1 : (cur.toList.take (n * 1))[j]? = (strs L)[j]? := (by rw [htake]); rw [List.getElem?_take, if_pos (by omega), Array.getElem?_toList] at e1; rw [e1]; unfold strs; rw [List.getElem?_map, List.getElem?_eq_getElem (by omega)]; simp [List.getD, List.getElem?_eq_getElem (show j < L.length by omega)]
theorem words_pos (s : ByteArray) : 0 < (wordsB s).length := by
  unfold wordsB; rw [List.length_map]; rcases h : spl 32 s.data.toList with _ | ⟨a, l⟩
  · rcases hl : s.data.toList with _ | ⟨b, t⟩
    · rw [hl] at h; cases h
    · rw [hl] at h; unfold spl at h
      split at h
      · cases h
      · split at h <;> cases h
  · simp
set_option maxHeartbeats 1600000 in
set_option maxRecDepth 100000 in
theorem r5Parse_any (s : ByteArray) (w : World) : Calls Tryz.prog 7 #[.string s] w fun e w' => e = .returned (.tuple #[.agg (parT s).1.cells, .int .i64 (parT s).2]) ∧ Below w.heap.size w w' := by
  have HB : Sl (Below w.heap.size w w) := ⟨Below.refl _ _⟩; have HSP : Sl _ := ⟨fun (h : s.size ≤ 200) (W : World) => r5words_any s h W⟩; obtain ⟨r, hr⟩ : ∃ r, parT s = r := ⟨_, rfl⟩; rw [hr]; have HR : Sl _ := ⟨hr⟩; clear hr
  by_cases hl : 200 < s.size
  · have hd : decide ((200 : Int) < (s.size : Int)) = true := decide_eq_true (by omega); have HV : Sl (r = (TV0, 3)) := ⟨by rw [← HR.out]; exact parT_long hl⟩; go_enter Tryz.func7, Tryz.ntmps7
    go_wp2_with ((with_reducible show wpList _ _ _ _ _ _); first
      | (refine wpList_alloc_new 2 rfl rfl 26 rfl TV0.cells alloc_temper ?_; rintro w1 gR zg zm zs zb; have ORD : Sl (w.heap.size ≤ gR) := ⟨by have := HB.out.size; omega⟩; replace HB : Sl (Below w.heap.size w w1) := ⟨below_mv HB.out zm (by have := HB.out.size; have := ORD.out; omega) HB.out.size⟩; have XR : Sl (Blk w1 gR 26 TV0.cells) := ⟨zb⟩; clear zg zm zs zb)
      | (refine wpList_store_whole rfl 26 (.tmp 2) (.tmp 12) rfl gR TV0.cells rfl rfl 26 TV0.cells XR.out rfl (size_temper _) (TV.cells_one _) ?_; rintro w2 zm zs zb; replace HB : Sl (Below w.heap.size w w2) := ⟨below_mv HB.out zm (by have := HB.out.size; have := ORD.out; omega) HB.out.size⟩; replace XR : Sl (Blk w2 gR 26 TV0.cells) := ⟨zb⟩; clear zm zs zb))
    refine bodyPost_ret (results_rowR rfl _ _ gR _ _ _ rfl XR.out Tryz.underlying26 rfl (size_temper _)) rfl ?_; exact ⟨by rw [HV.out]; rfl, HB.out⟩
  · have hd : decide ((200 : Int) < (s.size : Int)) = false := decide_eq_false (by omega); have HL : Sl (s.size ≤ 200) := ⟨by omega⟩; clear hl; go_enter Tryz.func7, Tryz.ntmps7
    go_wp2_with ((with_reducible show wpList _ _ _ _ _ _); first
      | (refine wpList_alloc_new 2 rfl rfl 26 rfl TV0.cells alloc_temper ?_; rintro w13 gR zg zm zs zb; have ORD : Sl (w.heap.size ≤ gR) := ⟨by have := HB.out.size; omega⟩; replace HB : Sl (Below w.heap.size w w13) := ⟨below_mv HB.out zm (by have := HB.out.size; have := ORD.out; omega) HB.out.size⟩; have XR : Sl (Blk w13 gR 26 TV0.cells) := ⟨zb⟩; clear zg zm zs zb))
    have HSZ : Sl (gR < w13.heap.size) := ⟨XR.out.lt⟩; refine (HSP.out HL.out _).mono ?_; rintro e w14 ⟨⟨v, rfl, hown⟩, hb⟩; obtain ⟨gW, cW, tW, csW, rfl, hge, zb, hcj⟩ := own_blk hown.out (words_pos s); replace HB : Sl (Below w.heap.size w w14) := ⟨HB.out.trans (hb.mono HB.out.size)⟩; replace XR : Sl (Blk w14 gR 26 TV0.cells) := ⟨XR.out.below hb XR.out.lt⟩; have XW : Sl (Blk w14 gW tW csW) := ⟨zb⟩; replace ORD : Sl (w.heap.size ≤ gR ∧ gR < gW) := ⟨by have := ORD.out; have := HSZ.out; omega⟩; have HCS : Sl _ := ⟨hcj⟩; clear hb zb hge hown hcj; obtain ⟨n, hn⟩ : ∃ n, (wordsB s).length = n := ⟨_, rfl⟩; rw [hn] at HCS; rw [hn]; have HN : Sl _ := ⟨hn⟩; clear hn
    by_cases h15 : n = 15
    · subst h15; obtain ⟨W0, hW0⟩ : ∃ x, (wordsB s).getD 0 ⟨#[]⟩ = x := ⟨_, rfl⟩; obtain ⟨W1, hW1⟩ : ∃ x, (wordsB s).getD 1 ⟨#[]⟩ = x := ⟨_, rfl⟩; obtain ⟨W2, hW2⟩ : ∃ x, (wordsB s).getD 2 ⟨#[]⟩ = x := ⟨_, rfl⟩; obtain ⟨p, hp⟩ : ∃ p, pvR numV (wordsB s) = p := ⟨_, rfl⟩; have HPV : Sl _ := ⟨hp⟩; have HW : Sl _ := ⟨And.intro hW0 (And.intro hW1 hW2)⟩; have hw2 := word_le s 2; rw [hW2] at hw2; have HN2 : Sl _ := ⟨fun V : World => r5number_any W2 (Nat.le_trans hw2 HL.out) V⟩; obtain ⟨z2, hz2⟩ : ∃ z, numV W2.data.toList = z := ⟨_, rfl⟩; rw [hz2] at HN2; obtain ⟨syn, hsyn⟩ : ∃ b, (W1.toList == [115, 121, 110, 116, 111, 110, 105, 99]) = b := ⟨_, rfl⟩; have HX : Sl (p.nm = W0 ∧ p.syn = syn ∧ p.wolf = z2) := ⟨by rw [← hp, ← hz2]; exact ⟨hW0, by rw [← hsyn, ← hW1]; rfl, by rw [← hW2]; rfl⟩⟩; clear hW0 hW1 hW2 hp hw2 hz2; have hag := Tryz.isAgg26; go_wp2_with fail; refine' wp_branch (fun g w' => Below w14.heap.size w14 w' ∧ w14.heap.size ≤ g ∧ Blk w' g 26 (TV.mk W0 syn z2 (fun _ => 0) (fun _ => 0)).cells) ?hreg ?hrest
      case hreg =>
        have hm : Below w14.heap.size w14 w14.drew := below_drewN (Below.refl _ _) 1; have HSW : Sl _ := ⟨hm⟩; refine wp_region_held_drew (S := fun w' => Below w14.heap.size w14 w') (by kernel_rfl) hm (fun hHeld => ?_); clear hm; refine wpAnyH_pure 0 (v := .slice (some ⟨gW, 0, none⟩) 15 cW) rfl (by kernel_rfl) (by kernel_rfl) (by kernel_rfl) (fun _ _ _ h => h) rfl (fun _ => rfl) (by assumption) ?_; simp only [Act.put, sS0, sS1, sS2]; refine wpAnyH_pure 1 (v := .pointer (some ⟨gW, 0, none⟩)) rfl (by kernel_rfl) (by kernel_rfl) (by kernel_rfl) (fun _ _ _ h => h) rfl (fun _ => by go_simp) (by assumption) ?_; simp only [Act.put, sS0, sS1, sS2]
        refine wpAnyH_cell 2 (v := .string W0) rfl rfl (fun w' h => by
          have e := (XW.out.below h XW.out.lt).cell 0; rw [HCS.out 0 (by decide), HW.out.1] at e
          go_simp) (by kernel_rfl) (by kernel_rfl) (by kernel_rfl) (fun _ _ _ h => h) (by assumption) ?_
        simp only [Act.put, sS0, sS1, sS2]; refine wpAnyH_pure 3 (v := .slice (some ⟨gW, 0, none⟩) 15 cW) rfl (by kernel_rfl) (by kernel_rfl) (by kernel_rfl) (fun _ _ _ h => h) rfl (fun _ => rfl) (by assumption) ?_; simp only [Act.put, sS0, sS1, sS2]; refine wpAnyH_pure 4 (v := .pointer (some ⟨gW, 1, none⟩)) rfl (by kernel_rfl) (by kernel_rfl) (by kernel_rfl) (fun _ _ _ h => h) rfl (fun _ => by go_simp) (by assumption) ?_; simp only [Act.put, sS0, sS1, sS2]
        refine wpAnyH_cell 5 (v := .string W1) rfl rfl (fun w' h => by
          have e := (XW.out.below h XW.out.lt).cell 1; rw [HCS.out 1 (by decide), HW.out.2.1] at e
          go_simp) (by kernel_rfl) (by kernel_rfl) (by kernel_rfl) (fun _ _ _ h => h) (by assumption) ?_
        simp only [Act.put, sS0, sS1, sS2]; refine wpAnyH_pure 6 (v := .bool syn) rfl (by kernel_rfl) (by kernel_rfl) (by kernel_rfl) (fun _ _ _ h => h) rfl (fun _ => by go_simp) (by assumption) ?_; simp only [Act.put, sS0, sS1, sS2]; refine wpAnyH_pure 7 (v := .slice (some ⟨gW, 0, none⟩) 15 cW) rfl (by kernel_rfl) (by kernel_rfl) (by kernel_rfl) (fun _ _ _ h => h) rfl (fun _ => rfl) (by assumption) ?_; simp only [Act.put, sS0, sS1, sS2]; refine wpAnyH_pure 8 (v := .pointer (some ⟨gW, 2, none⟩)) rfl (by kernel_rfl) (by kernel_rfl) (by kernel_rfl) (fun _ _ _ h => h) rfl (fun _ => by go_simp) (by assumption) ?_; simp only [Act.put, sS0, sS1, sS2]
        refine wpAnyH_cell 9 (v := .string W2) rfl rfl (fun w' h => by
          have e := (XW.out.below h XW.out.lt).cell 2; rw [HCS.out 2 (by decide), HW.out.2.2] at e
          go_simp) (by kernel_rfl) (by kernel_rfl) (by kernel_rfl) (fun _ _ _ h => h) (by assumption) ?_
        simp only [Act.put, sS0, sS1, sS2]; refine wpAnyH_two 10 12 rfl rfl (by kernel_rfl) rfl rfl (fun K hK => ?_) (fun K hK => ?_)
        · skip; go_simp; go_at_call 19
          (with_reducible refine (HN2.out _).mono ?_)
          rintro e z15 ⟨rfl, hb⟩; replace HSW : Sl (RowKit.Below w14.heap.size w14 z15) := ⟨HSW.out.trans (hb.mono HSW.out.size)⟩; refine hK.out _ _ HSW.out (fun hHeld => ?_); clear hK K hb
          (try simp only [Act.put, sS0, sS1, sS2])
          refine wpAnyH_pure 11 (v := .agg (TV.mk W0 syn z2 (fun _ => 0) (fun _ => 0)).cells) rfl (by kernel_rfl) (by kernel_rfl) (by kernel_rfl) (fun _ _ _ h => h) rfl (fun _ => by first | kernel_rfl | rfl) (by assumption) ?_; simp only [Act.put, sS0, sS1, sS2]; refine wpAnyH_one 12 rfl (by kernel_rfl) rfl (fun K hK => ?_); refine wp_alloc_new 26 rfl TV0.cells alloc_temper ?_; rintro z16 gn zg zm zs zb; have GE : Sl (w14.heap.size ≤ gn) := ⟨by have := HSW.out.size; omega⟩; have NB : Sl (Blk z16 gn 26 TV0.cells) := ⟨zb⟩; replace HSW : Sl (RowKit.Below w14.heap.size w14 z16) := ⟨HSW.out.trans (zm.mono HSW.out.size)⟩; refine hK.out _ _ HSW.out (fun hHeld => ?_); clear hK K zg zm zs zb; simp only [Act.put, sS0, sS1, sS2]; refine wpAnyH_one 13 rfl (by kernel_rfl) rfl (fun K hK => ?_); refine wp_store_part 26 (.tmp 5) (.tmp 30) rfl gn 0 (TV.mk W0 syn z2 (fun _ => 0) (fun _ => 0)).cells rfl rfl 26 TV0.cells (TV.mk W0 syn z2 (fun _ => 0) (fun _ => 0)).cells NB.out (by rw [TV.cells_size, TV.cells_size]; decide) (putA_all _ _ rfl) (size_temper _) (TV.cells_one _) ?_; rintro z17 zm zs zb; have hbn : Below w14.heap.size w14 z17 := below_mv HSW.out zm GE.out HSW.out.size; replace HSW : Sl (Below w14.heap.size w14 z17) := ⟨hbn⟩; refine hK.out _ _ hbn (fun hHeld => ?_); clear hK K hbn zm zs; simp only [Act.put, sS0, sS1, sS2]; exact wpAnyH_done (by kernel_rfl) ⟨gn, rfl, HSW.out, GE.out, zb⟩ _
        · skip; refine wp_alloc_new 26 rfl TV0.cells alloc_temper ?_; rintro z18 gn zg zm zs zb; have GE : Sl (w14.heap.size ≤ gn) := ⟨by have := HSW.out.size; omega⟩; have NB : Sl (Blk z18 gn 26 TV0.cells) := ⟨zb⟩; replace HSW : Sl (RowKit.Below w14.heap.size w14 z18) := ⟨HSW.out.trans (zm.mono HSW.out.size)⟩; refine hK.out _ _ HSW.out (fun hHeld => ?_); clear hK K zg zm zs zb; simp only [Act.put, sS0, sS1, sS2]; refine wpAnyH_one 10 rfl (by kernel_rfl) rfl (fun K hK => ?_); go_simp; go_at_call 19
          (with_reducible refine (HN2.out _).mono ?_)
          rintro e z19 ⟨rfl, hb⟩; replace HSW : Sl (RowKit.Below w14.heap.size w14 z19) := ⟨HSW.out.trans (hb.mono HSW.out.size)⟩; replace NB : Sl (Blk z19 gn 26 TV0.cells) := ⟨NB.out.below hb NB.out.lt⟩; refine hK.out _ _ HSW.out (fun hHeld => ?_); clear hK K hb
          (try simp only [Act.put, sS0, sS1, sS2])
          refine wpAnyH_pure 11 (v := .agg (TV.mk W0 syn z2 (fun _ => 0) (fun _ => 0)).cells) rfl (by kernel_rfl) (by kernel_rfl) (by kernel_rfl) (fun _ _ _ h => h) rfl (fun _ => by first | kernel_rfl | rfl) (by assumption) ?_; simp only [Act.put, sS0, sS1, sS2]; refine wpAnyH_one 13 rfl (by kernel_rfl) rfl (fun K hK => ?_); refine wp_store_part 26 (.tmp 5) (.tmp 30) rfl gn 0 (TV.mk W0 syn z2 (fun _ => 0) (fun _ => 0)).cells rfl rfl 26 TV0.cells (TV.mk W0 syn z2 (fun _ => 0) (fun _ => 0)).cells NB.out (by rw [TV.cells_size, TV.cells_size]; decide) (putA_all _ _ rfl) (size_temper _) (TV.cells_one _) ?_; rintro z20 zm zs zb; have hbn : Below w14.heap.size w14 z20 := below_mv HSW.out zm GE.out HSW.out.size; replace HSW : Sl (Below w14.heap.size w14 z20) := ⟨hbn⟩; refine hK.out _ _ hbn (fun hHeld => ?_); clear hK K hbn zm zs; simp only [Act.put, sS0, sS1, sS2]; exact wpAnyH_done (by kernel_rfl) ⟨gn, rfl, HSW.out, GE.out, zb⟩ _
      case hrest =>
        rintro gU w21 ⟨hb, hge, zb⟩; replace ORD : Sl (w.heap.size ≤ gR ∧ gR < gW ∧ gW < gU) := ⟨by have := HB.out.size; have := ORD.out; have := XR.out.lt; have := XW.out.lt; omega⟩; replace HB : Sl (Below w.heap.size w w21) := ⟨HB.out.trans (hb.mono HB.out.size)⟩; replace XR : Sl (Blk w21 gR 26 TV0.cells) := ⟨XR.out.below hb XR.out.lt⟩; replace XW : Sl (Blk w21 gW tW csW) := ⟨XW.out.below hb XW.out.lt⟩; have XU : Sl (Blk w21 gU 26 (TV.mk W0 syn z2 (fun _ => 0) (fun _ => 0)).cells) := ⟨zb⟩; clear hb hge zb; clear hsyn hag; go_wp2_with fail
        go_loopw [6] (fun sk wr => ∃ k : Nat, k ≤ 12 ∧ sk = .int .i64 k ∧ Sl (Below w.heap.size w wr) ∧ Sl (Blk wr gR 26 TV0.cells) ∧ Sl (Blk wr gW tW csW) ∧ Sl (Blk wr gU 26 ((TV.mk W0 syn z2 (fun _ => 0) (fun _ => 0)).fill p k).cells)) (fun sk _ => 12 - (RowKit.intOf sk).toNat)
        case atStart => exact ⟨0, by decide, rfl, HB, XR, XW, XU⟩
        case round =>
          clear HB XR XW XU; obtain ⟨k, hk, rfl, HB, XR, XW, XU⟩ := hrel
          by_cases hk12 : k < 12
          · have hk0 : (0 : Int) ≤ (k : Int) := (by omega); have hk1 : (k : Int) < 12 := (by omega); obtain ⟨wd, hwd⟩ : ∃ x, (wordsB s).getD (3 + k) ⟨#[]⟩ = x := ⟨_, rfl⟩; have hsz := word_le s (3 + k); rw [hwd] at hsz; have ck : wr.cell? ⟨gW, 3 + k, none⟩ = some (.string wd) := (by rw [XW.out.cell, HCS.out (3 + k) (by omega), hwd]); have HPA : Sl _ := ⟨fun V : World => r5part_any wd (Nat.le_trans hsz HL.out) V⟩; obtain ⟨n, hn⟩ : ∃ z, numV (cutN wd).1 = z := ⟨_, rfl⟩; obtain ⟨d, hd3⟩ : ∃ z, (if (cutN wd).2.2 = true then numV (cutN wd).2.1 else 1) = z := ⟨_, rfl⟩; rw [hn, hd3] at HPA
            have HPN : Sl (p.num k = n ∧ p.den k = d) := ⟨by
              rw [← HPV.out, ← hn, ← hd3, ← hwd]
              exact ⟨rfl, rfl⟩⟩
            clear hn hd3 hwd hsz; go_wp2_with fail; refine (HPA.out _).mono ?_; rintro e w22 ⟨rfl, hb⟩; replace HB : Sl (Below w.heap.size w w22) := ⟨HB.out.trans (hb.mono HB.out.size)⟩; replace XR : Sl (Blk w22 gR 26 TV0.cells) := ⟨XR.out.below hb XR.out.lt⟩; replace XW : Sl (Blk w22 gW tW csW) := ⟨XW.out.below hb XW.out.lt⟩; replace XU : Sl (Blk w22 gU 26 ((TV.mk W0 syn z2 (fun _ => 0) (fun _ => 0)).fill p k).cells) := ⟨XU.out.below hb XU.out.lt⟩; clear hb; clear ck
            go_wp2_with ((with_reducible show wpList _ _ _ _ _ _); first
              | (refine wpList_store_part rfl 23 (.tmp 43) (.tmp 41) rfl gU (3 + k * 2) #[.int .i64 n, .int .i64 d] rfl rfl 26 ((TV.mk W0 syn z2 (fun _ => 0) (fun _ => 0)).fill p k).cells (((TV.mk W0 syn z2 (fun _ => 0) (fun _ => 0)).fill p k).setp k n d).cells XU.out (by rw [TV.cells_size]; show 3 + k * 2 + 2 ≤ 27; omega) (TV.setp_part _ _ _ hk12) (size_part _ _) (part_one _ _) ?_; rintro w23 zm zs zb; replace HB : Sl (Below w.heap.size w w23) := ⟨below_mv HB.out zm (by have := HB.out.size; have := ORD.out; omega) HB.out.size⟩; replace XR : Sl (Blk w23 gR 26 TV0.cells) := ⟨XR.out.mv zm (by have := XR.out.lt; have := ORD.out; omega)⟩; replace XW : Sl (Blk w23 gW tW csW) := ⟨XW.out.mv zm (by have := XW.out.lt; have := ORD.out; omega)⟩; replace XU : Sl (Blk w23 gU 26 (((TV.mk W0 syn z2 (fun _ => 0) (fun _ => 0)).fill p k).setp k n d).cells) := ⟨zb⟩; clear zm zs zb))
            exact ⟨⟨k + 1, hk12, by go_num, HB, XR, XW, ⟨by
                have e : ((TV.mk W0 syn z2 (fun _ => 0) (fun _ => 0)).fill p (k + 1)) = (((TV.mk W0 syn z2 (fun _ => 0) (fun _ => 0)).fill p k).setp k n d) := (by show TV.setp _ k (p.num k) (p.den k) = _; rw [HPN.out.1, HPN.out.2])
                rw [e]; exact XU.out⟩⟩, by simp [RowKit.intOf]; omega⟩
          · obtain rfl : k = 12 := (by omega)
            replace XU : Sl (Blk wr gU 26 p.cells) := ⟨by
              have e := TV.fill_end (t := (TV.mk W0 syn z2 (fun _ => 0) (fun _ => 0))) (p := p) HX.out.1.symm HX.out.2.1.symm HX.out.2.2.symm
              rw [← e]; exact XU.out⟩
            clear hk hk12
            by_cases hx : ∃ t : TV, t.chk nameS = 0 ∧ t.txt = s
            · obtain ⟨t, hc, ht⟩ := hx; have HQ : Sl (r.1.cells = t.cells ∧ r.2 = 0) := ⟨by rw [← HR.out]; exact parT_hit HL.out hc ht⟩
              have hpc : p.cells = t.cells := by
                have := pvR_txt reads_V hc; rw [ht, HPV.out] at this; exact this
              have hnm : t.nm.size ≤ maxLen := Nat.le_trans (nameS_len (TV.chk_ok hc).2.2.1) (by decide); have HTX : Sl (∀ W : World, Calls Tryz.prog 5 #[.agg t.cells] W fun e w' => e = .returned (.tuple #[.string s, .int .i64 0]) ∧ Below W.heap.size W w') := ⟨fun W => (r5Text_any t hnm W).mono fun e w' hh => ⟨by rw [← ht]; exact hh.2.1 hc, hh.2.2⟩⟩; replace XU : Sl (Blk wr gU 26 t.cells) := ⟨by rw [← hpc]; exact XU.out⟩; clear hc ht hpc hnm
              go_wp2_with ((with_reducible show wpList _ _ _ _ _ _); first
                | (refine wpList_load_whole rfl 26 (.tmp 5) rfl gU rfl 26 t.cells _ XU.out Tryz.underlying26 rfl (size_temper t) ?_))
              refine (HTX.out _).mono ?_; rintro e w44 ⟨rfl, hb⟩; replace HB : Sl (Below w.heap.size w w44) := ⟨HB.out.trans (hb.mono HB.out.size)⟩; replace XR : Sl (Blk w44 gR 26 TV0.cells) := ⟨XR.out.below hb XR.out.lt⟩; replace XW : Sl (Blk w44 gW tW csW) := ⟨XW.out.below hb XW.out.lt⟩; replace XU : Sl (Blk w44 gU 26 t.cells) := ⟨XU.out.below hb XU.out.lt⟩; clear hb
              go_wp2_with ((with_reducible show wpList _ _ _ _ _ _); first
                | (refine wpList_load_whole rfl 26 (.tmp 5) rfl gU rfl 26 t.cells _ XU.out Tryz.underlying26 rfl (size_temper t) ?_)
                | (refine wpList_store_whole rfl 26 (.tmp 2) (.tmp 57) rfl gR t.cells rfl rfl 26 TV0.cells XR.out rfl (size_temper _) (TV.cells_one _) ?_; rintro w45 zm zs zb; replace HB : Sl (Below w.heap.size w w45) := ⟨below_mv HB.out zm (by have := HB.out.size; have := ORD.out; omega) HB.out.size⟩; replace XW : Sl (Blk w45 gW tW csW) := ⟨XW.out.mv zm (by have := XW.out.lt; have := ORD.out; omega)⟩; replace XU : Sl (Blk w45 gU 26 t.cells) := ⟨XU.out.mv zm (by have := XU.out.lt; have := ORD.out; omega)⟩; replace XR : Sl (Blk w45 gR 26 t.cells) := ⟨zb⟩; clear zm zs zb))
              refine bodyPost_ret (results_rowR rfl _ _ gR _ _ _ rfl XR.out Tryz.underlying26 rfl (size_temper _)) rfl ?_; exact ⟨by rw [HQ.out.1, HQ.out.2]; rfl, HB.out⟩
            · have HQ : Sl (r = (TV0, 6)) := ⟨by rw [← HR.out]; exact parT_miss HL.out hx⟩
              have hnm : p.nm.size ≤ maxLen := by
                have h1 := word_le s 0; rw [HW.out.1, ← HX.out.1] at h1; exact Nat.le_trans (Nat.le_trans h1 HL.out) (by decide)
              obtain ⟨str, c, HTX, hne⟩ : ∃ (str : ByteArray) (c : Int), Sl (∀ W : World, Calls Tryz.prog 5 #[.agg p.cells] W fun e w' => e = .returned (.tuple #[.string str, .int .i64 c]) ∧ Below W.heap.size W w') ∧ (c = 0 → str ≠ s) := by
                by_cases hc : p.chk nameS = 0
                · exact ⟨p.txt, 0, ⟨fun W => (r5Text_any p hnm W).mono fun e w' hh => ⟨hh.2.1 hc, hh.2.2⟩⟩, fun _ he => hx ⟨p, hc, he⟩⟩
                · exact ⟨⟨#[]⟩, p.chk nameS, ⟨fun W => (r5Text_any p hnm W).mono fun e w' hh => ⟨hh.1 hc, hh.2.2⟩⟩, fun h => absurd h hc⟩
              clear hx hnm
              by_cases h0 : c = 0
              · subst h0; have hq0 := hne rfl; have hq1 : (str.toList == s.toList) = false := (by rw [beq_eq_false_iff_ne]; exact fun h => hq0 (bytes_eq h))
                go_wp2_with ((with_reducible show wpList _ _ _ _ _ _); first
                  | (refine wpList_load_whole rfl 26 (.tmp 5) rfl gU rfl 26 p.cells _ XU.out Tryz.underlying26 rfl (size_temper p) ?_))
                refine (HTX.out _).mono ?_; rintro e w66 ⟨rfl, hb⟩; replace HB : Sl (Below w.heap.size w w66) := ⟨HB.out.trans (hb.mono HB.out.size)⟩; replace XR : Sl (Blk w66 gR 26 TV0.cells) := ⟨XR.out.below hb XR.out.lt⟩; replace XW : Sl (Blk w66 gW tW csW) := ⟨XW.out.below hb XW.out.lt⟩; replace XU : Sl (Blk w66 gU 26 p.cells) := ⟨XU.out.below hb XU.out.lt⟩; clear hb
                go_wp2_with ((with_reducible show wpList _ _ _ _ _ _); first
                  | (refine wpList_store_whole rfl 26 (.tmp 2) (.tmp 56) rfl gR TV0.cells rfl rfl 26 TV0.cells XR.out rfl (size_temper _) (TV.cells_one _) ?_; rintro w67 zm zs zb; replace HB : Sl (Below w.heap.size w w67) := ⟨below_mv HB.out zm (by have := HB.out.size; have := ORD.out; omega) HB.out.size⟩; replace XW : Sl (Blk w67 gW tW csW) := ⟨XW.out.mv zm (by have := XW.out.lt; have := ORD.out; omega)⟩; replace XU : Sl (Blk w67 gU 26 p.cells) := ⟨XU.out.mv zm (by have := XU.out.lt; have := ORD.out; omega)⟩; replace XR : Sl (Blk w67 gR 26 TV0.cells) := ⟨zb⟩; clear zm zs zb))
                refine bodyPost_ret (results_rowR rfl _ _ gR _ _ _ rfl XR.out Tryz.underlying26 rfl (size_temper _)) rfl ?_; exact ⟨by rw [HQ.out]; rfl, HB.out⟩
              · have hz : ((c : Int) != 0) = true := (by rw [bne_iff_ne]; exact h0)
                go_wp2_with ((with_reducible show wpList _ _ _ _ _ _); first
                  | (refine wpList_load_whole rfl 26 (.tmp 5) rfl gU rfl 26 p.cells _ XU.out Tryz.underlying26 rfl (size_temper p) ?_))
                refine (HTX.out _).mono ?_; rintro e w78 ⟨rfl, hb⟩; replace HB : Sl (Below w.heap.size w w78) := ⟨HB.out.trans (hb.mono HB.out.size)⟩; replace XR : Sl (Blk w78 gR 26 TV0.cells) := ⟨XR.out.below hb XR.out.lt⟩; replace XW : Sl (Blk w78 gW tW csW) := ⟨XW.out.below hb XW.out.lt⟩; replace XU : Sl (Blk w78 gU 26 p.cells) := ⟨XU.out.below hb XU.out.lt⟩; clear hb
                go_wp2_with ((with_reducible show wpList _ _ _ _ _ _); first
                  | (refine wpList_store_whole rfl 26 (.tmp 2) (.tmp 56) rfl gR TV0.cells rfl rfl 26 TV0.cells XR.out rfl (size_temper _) (TV.cells_one _) ?_; rintro w79 zm zs zb; replace HB : Sl (Below w.heap.size w w79) := ⟨below_mv HB.out zm (by have := HB.out.size; have := ORD.out; omega) HB.out.size⟩; replace XW : Sl (Blk w79 gW tW csW) := ⟨XW.out.mv zm (by have := XW.out.lt; have := ORD.out; omega)⟩; replace XU : Sl (Blk w79 gU 26 p.cells) := ⟨XU.out.mv zm (by have := XU.out.lt; have := ORD.out; omega)⟩; replace XR : Sl (Blk w79 gR 26 TV0.cells) := ⟨zb⟩; clear zm zs zb))
                refine bodyPost_ret (results_rowR rfl _ _ gR _ _ _ rfl XR.out Tryz.underlying26 rfl (size_temper _)) rfl ?_; exact ⟨by rw [HQ.out]; rfl, HB.out⟩
    · have hn15 : ((n : Int) != 15) = true := (by rw [bne_iff_ne]; omega)
      have HQ : Sl (r = (TV0, 6)) := ⟨by
        rw [← HR.out]; refine parT_miss HL.out (fun ⟨t, hc, ht⟩ => ?_); have := len_txt hc; rw [ht] at this; have := HN.out
        omega⟩
      go_wp2_with ((with_reducible show wpList _ _ _ _ _ _); first
        | (refine wpList_store_whole rfl 26 (.tmp 2) (.tmp 18) rfl gR TV0.cells rfl rfl 26 TV0.cells XR.out rfl (size_temper _) (TV.cells_one _) ?_; rintro w90 zm zs zb; replace HB : Sl (Below w.heap.size w w90) := ⟨below_mv HB.out zm (by have := HB.out.size; have := ORD.out; omega) HB.out.size⟩; replace XW : Sl (Blk w90 gW tW csW) := ⟨XW.out.mv zm (by have := XW.out.lt; have := ORD.out; omega)⟩; replace XR : Sl (Blk w90 gR 26 TV0.cells) := ⟨zb⟩; clear zm zs zb))
      refine bodyPost_ret (results_rowR rfl _ _ gR _ _ _ rfl XR.out Tryz.underlying26 rfl (size_temper _)) rfl ?_; exact ⟨by rw [HQ.out]; rfl, HB.out⟩
end Go.Proofs.YtgmpipimancnhaaGreatDoor
namespace Go.Proofs.YtgmpipimancnhaaGreatDoor
set_option linter.unusedSimpArgs false
open Go.RowKit
set_option linter.unusedVariables false
theorem eq_partk (W : World) (n d : Int) : (Op.equalIn 9998 23 (.agg #[.int .i64 n, .int .i64 d]) (.agg #[.int .i64 n, .int .i64 d])).run Tryz.prog W = .ok true W := by
  go_simp
theorem part12k_0 (W : World) (t : TV) : (part 23 t.parts 0).run Tryz.prog W = .ok (.agg #[.int .i64 (t.num 0), .int .i64 (t.den 0)]) W := by kernel_rfl
theorem part12k_1 (W : World) (t : TV) : (part 23 t.parts 2).run Tryz.prog W = .ok (.agg #[.int .i64 (t.num 1), .int .i64 (t.den 1)]) W := by kernel_rfl
theorem part12k_2 (W : World) (t : TV) : (part 23 t.parts 4).run Tryz.prog W = .ok (.agg #[.int .i64 (t.num 2), .int .i64 (t.den 2)]) W := by kernel_rfl
theorem part12k_3 (W : World) (t : TV) : (part 23 t.parts 6).run Tryz.prog W = .ok (.agg #[.int .i64 (t.num 3), .int .i64 (t.den 3)]) W := by kernel_rfl
theorem part12k_4 (W : World) (t : TV) : (part 23 t.parts 8).run Tryz.prog W = .ok (.agg #[.int .i64 (t.num 4), .int .i64 (t.den 4)]) W := by kernel_rfl
theorem part12k_5 (W : World) (t : TV) : (part 23 t.parts 10).run Tryz.prog W = .ok (.agg #[.int .i64 (t.num 5), .int .i64 (t.den 5)]) W := by kernel_rfl
theorem part12k_6 (W : World) (t : TV) : (part 23 t.parts 12).run Tryz.prog W = .ok (.agg #[.int .i64 (t.num 6), .int .i64 (t.den 6)]) W := by kernel_rfl
theorem part12k_7 (W : World) (t : TV) : (part 23 t.parts 14).run Tryz.prog W = .ok (.agg #[.int .i64 (t.num 7), .int .i64 (t.den 7)]) W := by kernel_rfl
theorem part12k_8 (W : World) (t : TV) : (part 23 t.parts 16).run Tryz.prog W = .ok (.agg #[.int .i64 (t.num 8), .int .i64 (t.den 8)]) W := by kernel_rfl
theorem part12k_9 (W : World) (t : TV) : (part 23 t.parts 18).run Tryz.prog W = .ok (.agg #[.int .i64 (t.num 9), .int .i64 (t.den 9)]) W := by kernel_rfl
theorem part12k_10 (W : World) (t : TV) : (part 23 t.parts 20).run Tryz.prog W = .ok (.agg #[.int .i64 (t.num 10), .int .i64 (t.den 10)]) W := by kernel_rfl
theorem part12k_11 (W : World) (t : TV) : (part 23 t.parts 22).run Tryz.prog W = .ok (.agg #[.int .i64 (t.num 11), .int .i64 (t.den 11)]) W := by kernel_rfl
theorem eq_partsk (W : World) (t : TV) : (Op.equalIn 9999 24 (.agg t.parts) (.agg t.parts)).run Tryz.prog W = .ok true W := by
  have hsome : (Tryz.prog.info? 23).isSome = true := (by kernel_rfl); obtain ⟨i, hi⟩ := Option.isSome_iff_exists.1 hsome; have hc : Tryz.prog.cellsOf 23 = 2 := (by kernel_rfl); have he := eq_partk; rw [run_equalIn_array W 9998 _ _ Tryz.underlying24 hi, hc]; have hl : List.range 12 = [0, 1, 2, 3, 4, 5, 6, 7, 8, 9, 10, 11] := (by decide); rw [hl]; simp [Op.eqItems, Sem.run_bind, part12k_0, part12k_1, part12k_2, part12k_3, part12k_4, part12k_5, part12k_6, part12k_7, part12k_8, part12k_9, part12k_10, part12k_11, he, Result.andThen]
theorem TV.parts_ext2k (t : TV) : t.cells.extract 3 27 = t.parts := by kernel_rfl
section
variable {P : Program} {ops : Array Oper} {rest : List Oper} {op : Oper} {a : Act} {w : World} {Q : Exit → Act → World → Prop}
theorem wpList_load_wholev (hw : Region.wanted op (yielded ops a.tmps) = true) (ty : TypeId) (x : Operand) (ho : op.op = .load ty x)
    (g : Nat) (hx : a.eval x = .pointer (some ⟨g, 0, none⟩)) (t : TypeId) (cs : Array Value) (d : TypeDesc) (hB : Blk w g t cs)
    (hu : P.underlying ty = some d) (hd : d.isRow = true) (hi : (P.info? ty).map (·.size) = some cs.size)
    (h : wpList P ops Q rest (a.put op.dst (.agg cs)) w) : wpList P ops Q (op :: rest) a w := by
  refine wpList_step fun K hK => ?_
  rw [if_pos hw]; exact wp_load_all ty x ho g hx t cs d hB hu hd hi (hK _ _ h)
end
attribute [-simp] Tryz.isAgg26 Tryz.isAgg24
set_option maxHeartbeats 6400000 in
set_option maxRecDepth 100000 in
theorem temperTexts_any (t : TV) (hs : t.nm.size ≤ maxLen) (s : ByteArray) (w : World) (hT : PrT w) (hI : ItoaOK w) (hP : ParOK w) : Calls Tryz.prog 3 #[.agg t.cells, .string s] w fun e w' => e = .returned (.bool true) ∧ Below w.heap.size w w' := by
  have HB : Sl (Below w.heap.size w w) := ⟨Below.refl _ _⟩; have HT : Sl _ := ⟨hT⟩; have HI : Sl _ := ⟨hI⟩; have HP : Sl _ := ⟨hP⟩
  obtain ⟨str, c, H1, H2, H3⟩ : ∃ (str : ByteArray) (c : Int), Sl (∀ W : World, ItoaOK W → Calls Tryz.prog 4 #[.agg t.cells] W fun e w' => e = .returned (.tuple #[.string str, .int .i64 c]) ∧ Below W.heap.size W w') ∧ Sl (∀ W : World, Calls Tryz.prog 5 #[.agg t.cells] W fun e w' => e = .returned (.tuple #[.string str, .int .i64 c]) ∧ Below W.heap.size W w') ∧ Sl (c = 0 → ∀ W : World, ItoaOK W → ParOK W → Calls Tryz.prog 6 #[.string str] W fun e w' => e = .returned (.tuple #[.agg t.cells, .int .i64 0]) ∧ Below W.heap.size W w') := by
    by_cases hc : t.chk nameS = 0
    · refine ⟨t.txt, 0, ⟨fun W h => (tText_any t hs W h).mono fun e w' hh => ⟨hh.2.1 hc, hh.2.2⟩⟩, ⟨fun W => (r5Text_any t hs W).mono fun e w' hh => ⟨hh.2.1 hc, hh.2.2⟩⟩, ⟨fun _ W h1 h2 => (tParse_any t.txt W h1 h2).mono fun e w' hh => ⟨?_, hh.2⟩⟩⟩; have hq := parT_hit (txt_size hc) hc rfl; rw [hh.1, hq.1, hq.2]
    · exact ⟨⟨#[]⟩, t.chk nameS, ⟨fun W h => (tText_any t hs W h).mono fun e w' hh => ⟨hh.1 hc, hh.2.2⟩⟩, ⟨fun W => (r5Text_any t hs W).mono fun e w' hh => ⟨hh.1 hc, hh.2.2⟩⟩, ⟨fun h => absurd h hc⟩⟩
  have H4 : Sl _ := ⟨fun (W : World) (h1 : ItoaOK W) (h2 : ParOK W) => tParse_any s W h1 h2⟩; have H5 : Sl _ := ⟨fun W : World => r5Parse_any s W⟩; have H6 : Sl _ := ⟨fun (W : World) (h : PrT W) => awake5_any W h⟩; clear hT hI hP hs; obtain ⟨r, hr⟩ : ∃ r, parT s = r := ⟨_, rfl⟩; rw [hr] at H4 H5; clear hr; obtain ⟨a, ea⟩ := r; simp only at H4 H5; have HA : Sl _ := ⟨And.intro a.cell0 (And.intro a.cell1 (And.intro a.cell2 (And.intro a.parts_ext2k (fun W => eq_partsk W a))))⟩; have HB' : Sl _ := ⟨And.intro t.cell0 (And.intro t.cell1 (And.intro t.cell2 (And.intro t.parts_ext2k (fun W => eq_partsk W t))))⟩; go_enter Tryz.func3, Tryz.ntmps3
  go_wp2_with ((with_reducible show wpList _ _ _ _ _ _); first
    | (refine wpList_box_new 2 rfl rfl 26 (.tmp 0) rfl t.cells rfl (box_temper t) ?_; rintro w1 gT zg zm zs zb; have ORD : Sl (w.heap.size ≤ gT) := ⟨by have := HB.out.size; omega⟩; replace HB : Sl (Below w.heap.size w w1) := ⟨below_mv HB.out zm (by have := HB.out.size; have := ORD.out; omega) HB.out.size⟩; have XT : Sl (Blk w1 gT 26 t.cells) := ⟨zb⟩; clear zg zm zs zb)
    | (refine wpList_load_whole rfl 26 (.tmp 2) rfl gT rfl 26 t.cells _ XT.out Tryz.underlying26 rfl (size_temper t) ?_))
  refine (H1.out _ (fun z V h1 h2 hb => HI.out z V h1 h2 (HB.out.trans (hb.mono HB.out.size)))).mono ?_; rintro e w2 ⟨rfl, hb⟩; replace HB : Sl (Below w.heap.size w w2) := ⟨HB.out.trans (hb.mono HB.out.size)⟩; replace XT : Sl (Blk w2 gT 26 t.cells) := ⟨XT.out.below hb XT.out.lt⟩; clear hb
  go_wp2_with ((with_reducible show wpList _ _ _ _ _ _); first
    | (refine wpList_load_whole rfl 26 (.tmp 2) rfl gT rfl 26 t.cells _ XT.out Tryz.underlying26 rfl (size_temper t) ?_))
  refine (H2.out _).mono ?_; rintro e w3 ⟨rfl, hb⟩; replace HB : Sl (Below w.heap.size w w3) := ⟨HB.out.trans (hb.mono HB.out.size)⟩; replace XT : Sl (Blk w3 gT 26 t.cells) := ⟨XT.out.below hb XT.out.lt⟩; clear hb; go_wp2_with fail; refine (H4.out _ (fun z V h1 h2 hb => HI.out z V h1 h2 (HB.out.trans (hb.mono HB.out.size))) (HP.out.below HB.out)).mono ?_; rintro e w4 ⟨rfl, hb⟩; replace HB : Sl (Below w.heap.size w w4) := ⟨HB.out.trans (hb.mono HB.out.size)⟩; replace XT : Sl (Blk w4 gT 26 t.cells) := ⟨XT.out.below hb XT.out.lt⟩; clear hb
  go_wp2_with ((with_reducible show wpList _ _ _ _ _ _); first
    | (refine wpList_alloc_new 9 rfl rfl 26 rfl TV0.cells alloc_temper ?_; rintro w5 gA zg zm zs zb; replace ORD : Sl (w.heap.size ≤ gT ∧ gT < gA) := ⟨by have := HB.out.size; have := ORD.out; have := XT.out.lt; omega⟩; replace HB : Sl (Below w.heap.size w w5) := ⟨below_mv HB.out zm (by have := HB.out.size; have := ORD.out; omega) HB.out.size⟩; replace XT : Sl (Blk w5 gT 26 t.cells) := ⟨XT.out.mv zm (by have := XT.out.lt; have := ORD.out; omega)⟩; have XA : Sl (Blk w5 gA 26 TV0.cells) := ⟨zb⟩; clear zg zm zs zb)
    | (refine wpList_store_whole rfl 26 (.tmp 9) (.tmp 28) rfl gA a.cells rfl rfl 26 TV0.cells XA.out rfl (size_temper _) (TV.cells_one _) ?_; rintro w6 zm zs zb; replace HB : Sl (Below w.heap.size w w6) := ⟨below_mv HB.out zm (by have := HB.out.size; have := ORD.out; omega) HB.out.size⟩; replace XT : Sl (Blk w6 gT 26 t.cells) := ⟨XT.out.mv zm (by have := XT.out.lt; have := ORD.out; omega)⟩; replace XA : Sl (Blk w6 gA 26 a.cells) := ⟨zb⟩; clear zm zs zb))
  refine (H5.out _).mono ?_; rintro e w7 ⟨rfl, hb⟩; replace HB : Sl (Below w.heap.size w w7) := ⟨HB.out.trans (hb.mono HB.out.size)⟩; replace XT : Sl (Blk w7 gT 26 t.cells) := ⟨XT.out.below hb XT.out.lt⟩; replace XA : Sl (Blk w7 gA 26 a.cells) := ⟨XA.out.below hb XA.out.lt⟩; clear hb; obtain ⟨a0, a1, a2, a3, a4⟩ := HA.out; have hag := Tryz.isAgg24
  by_cases h0 : c = 0
  · subst h0
    go_wp2_with ((with_reducible show wpList _ _ _ _ _ _); first
      | (refine wpList_alloc_new 11 rfl rfl 26 rfl TV0.cells alloc_temper ?_; rintro w8 gB zg zm zs zb; replace ORD : Sl (w.heap.size ≤ gT ∧ gT < gA ∧ gA < gB) := ⟨by have := HB.out.size; have := ORD.out; have := XT.out.lt; have := XA.out.lt; omega⟩; replace HB : Sl (Below w.heap.size w w8) := ⟨below_mv HB.out zm (by have := HB.out.size; have := ORD.out; omega) HB.out.size⟩; replace XT : Sl (Blk w8 gT 26 t.cells) := ⟨XT.out.mv zm (by have := XT.out.lt; have := ORD.out; omega)⟩; replace XA : Sl (Blk w8 gA 26 a.cells) := ⟨XA.out.mv zm (by have := XA.out.lt; have := ORD.out; omega)⟩; have XB : Sl (Blk w8 gB 26 TV0.cells) := ⟨zb⟩; clear zg zm zs zb)
      | (refine wpList_store_whole rfl 26 (.tmp 11) (.tmp 33) rfl gB a.cells rfl rfl 26 TV0.cells XB.out rfl (size_temper _) (TV.cells_one _) ?_; rintro w9 zm zs zb; replace HB : Sl (Below w.heap.size w w9) := ⟨below_mv HB.out zm (by have := HB.out.size; have := ORD.out; omega) HB.out.size⟩; replace XT : Sl (Blk w9 gT 26 t.cells) := ⟨XT.out.mv zm (by have := XT.out.lt; have := ORD.out; omega)⟩; replace XA : Sl (Blk w9 gA 26 a.cells) := ⟨XA.out.mv zm (by have := XA.out.lt; have := ORD.out; omega)⟩; replace XB : Sl (Blk w9 gB 26 a.cells) := ⟨zb⟩; clear zm zs zb)
      | (refine wpList_load_wholev (by rfl) 26 (.tmp 9) rfl gA rfl 26 a.cells _ XA.out Tryz.underlying26 rfl (size_temper a) ?_)
      | (refine wpList_load_wholev (by rfl) 26 (.tmp 11) rfl gB rfl 26 a.cells _ XB.out Tryz.underlying26 rfl (size_temper a) ?_))
    refine (H3.out (by trivial) _ (fun z V h1 h2 hb => HI.out z V h1 h2 (HB.out.trans (hb.mono HB.out.size))) (HP.out.below HB.out)).mono ?_; rintro e w10 ⟨rfl, hb⟩; replace HB : Sl (Below w.heap.size w w10) := ⟨HB.out.trans (hb.mono HB.out.size)⟩; replace XT : Sl (Blk w10 gT 26 t.cells) := ⟨XT.out.below hb XT.out.lt⟩; replace XA : Sl (Blk w10 gA 26 a.cells) := ⟨XA.out.below hb XA.out.lt⟩; replace XB : Sl (Blk w10 gB 26 a.cells) := ⟨XB.out.below hb XB.out.lt⟩; clear hb; clear a0 a1 a2 a3 a4; obtain ⟨b0, b1, b2, b3, b4⟩ := HB'.out
    go_wp2_with ((with_reducible show wpList _ _ _ _ _ _); first
      | (refine wpList_alloc_new 13 rfl rfl 26 rfl TV0.cells alloc_temper ?_; rintro w11 gC zg zm zs zb; replace ORD : Sl (w.heap.size ≤ gT ∧ gT < gA ∧ gA < gB ∧ gB < gC) := ⟨by have := HB.out.size; have := ORD.out; have := XT.out.lt; have := XA.out.lt; have := XB.out.lt; omega⟩; replace HB : Sl (Below w.heap.size w w11) := ⟨below_mv HB.out zm (by have := HB.out.size; have := ORD.out; omega) HB.out.size⟩; replace XT : Sl (Blk w11 gT 26 t.cells) := ⟨XT.out.mv zm (by have := XT.out.lt; have := ORD.out; omega)⟩; replace XA : Sl (Blk w11 gA 26 a.cells) := ⟨XA.out.mv zm (by have := XA.out.lt; have := ORD.out; omega)⟩; replace XB : Sl (Blk w11 gB 26 a.cells) := ⟨XB.out.mv zm (by have := XB.out.lt; have := ORD.out; omega)⟩; have XC : Sl (Blk w11 gC 26 TV0.cells) := ⟨zb⟩; clear zg zm zs zb)
      | (refine wpList_store_whole rfl 26 (.tmp 13) (.tmp 58) rfl gC t.cells rfl rfl 26 TV0.cells XC.out rfl (size_temper _) (TV.cells_one _) ?_; rintro w12 zm zs zb; replace HB : Sl (Below w.heap.size w w12) := ⟨below_mv HB.out zm (by have := HB.out.size; have := ORD.out; omega) HB.out.size⟩; replace XT : Sl (Blk w12 gT 26 t.cells) := ⟨XT.out.mv zm (by have := XT.out.lt; have := ORD.out; omega)⟩; replace XA : Sl (Blk w12 gA 26 a.cells) := ⟨XA.out.mv zm (by have := XA.out.lt; have := ORD.out; omega)⟩; replace XB : Sl (Blk w12 gB 26 a.cells) := ⟨XB.out.mv zm (by have := XB.out.lt; have := ORD.out; omega)⟩; replace XC : Sl (Blk w12 gC 26 t.cells) := ⟨zb⟩; clear zm zs zb)
      | (refine wpList_load_wholev (by rfl) 26 (.tmp 13) rfl gC rfl 26 t.cells _ XC.out Tryz.underlying26 rfl (size_temper t) ?_)
      | (refine wpList_load_wholev (by rfl) 26 (.tmp 2) rfl gT rfl 26 t.cells _ XT.out Tryz.underlying26 rfl (size_temper t) ?_))
    refine (H6.out _ (HT.out.below HB.out)).mono ?_; rintro e w13 ⟨rfl, hb⟩; replace HB : Sl (Below w.heap.size w w13) := ⟨HB.out.trans (hb.mono HB.out.size)⟩; replace XT : Sl (Blk w13 gT 26 t.cells) := ⟨XT.out.below hb XT.out.lt⟩; replace XA : Sl (Blk w13 gA 26 a.cells) := ⟨XA.out.below hb XA.out.lt⟩; replace XB : Sl (Blk w13 gB 26 a.cells) := ⟨XB.out.below hb XB.out.lt⟩; replace XC : Sl (Blk w13 gC 26 t.cells) := ⟨XC.out.below hb XC.out.lt⟩; clear hb; go_wp2_with fail; go_ret; exact ⟨rfl, HB.out⟩
  · have hz : ((c : Int) == 0) = false := (by rw [beq_eq_false_iff_ne]; exact h0)
    go_wp2_with ((with_reducible show wpList _ _ _ _ _ _); first
      | (refine wpList_alloc_new 11 rfl rfl 26 rfl TV0.cells alloc_temper ?_; rintro w24 gB zg zm zs zb; replace ORD : Sl (w.heap.size ≤ gT ∧ gT < gA ∧ gA < gB) := ⟨by have := HB.out.size; have := ORD.out; have := XT.out.lt; have := XA.out.lt; omega⟩; replace HB : Sl (Below w.heap.size w w24) := ⟨below_mv HB.out zm (by have := HB.out.size; have := ORD.out; omega) HB.out.size⟩; replace XT : Sl (Blk w24 gT 26 t.cells) := ⟨XT.out.mv zm (by have := XT.out.lt; have := ORD.out; omega)⟩; replace XA : Sl (Blk w24 gA 26 a.cells) := ⟨XA.out.mv zm (by have := XA.out.lt; have := ORD.out; omega)⟩; have XB : Sl (Blk w24 gB 26 TV0.cells) := ⟨zb⟩; clear zg zm zs zb)
      | (refine wpList_store_whole rfl 26 (.tmp 11) (.tmp 33) rfl gB a.cells rfl rfl 26 TV0.cells XB.out rfl (size_temper _) (TV.cells_one _) ?_; rintro w25 zm zs zb; replace HB : Sl (Below w.heap.size w w25) := ⟨below_mv HB.out zm (by have := HB.out.size; have := ORD.out; omega) HB.out.size⟩; replace XT : Sl (Blk w25 gT 26 t.cells) := ⟨XT.out.mv zm (by have := XT.out.lt; have := ORD.out; omega)⟩; replace XA : Sl (Blk w25 gA 26 a.cells) := ⟨XA.out.mv zm (by have := XA.out.lt; have := ORD.out; omega)⟩; replace XB : Sl (Blk w25 gB 26 a.cells) := ⟨zb⟩; clear zm zs zb)
      | (refine wpList_load_wholev (by rfl) 26 (.tmp 9) rfl gA rfl 26 a.cells _ XA.out Tryz.underlying26 rfl (size_temper a) ?_)
      | (refine wpList_load_wholev (by rfl) 26 (.tmp 11) rfl gB rfl 26 a.cells _ XB.out Tryz.underlying26 rfl (size_temper a) ?_))
    refine (H6.out _ (HT.out.below HB.out)).mono ?_; rintro e w26 ⟨rfl, hb⟩; replace HB : Sl (Below w.heap.size w w26) := ⟨HB.out.trans (hb.mono HB.out.size)⟩; replace XT : Sl (Blk w26 gT 26 t.cells) := ⟨XT.out.below hb XT.out.lt⟩; replace XA : Sl (Blk w26 gA 26 a.cells) := ⟨XA.out.below hb XA.out.lt⟩; replace XB : Sl (Blk w26 gB 26 a.cells) := ⟨XB.out.below hb XB.out.lt⟩; clear hb; go_wp2_with fail; go_ret; exact ⟨rfl, HB.out⟩
end Go.Proofs.YtgmpipimancnhaaGreatDoor
