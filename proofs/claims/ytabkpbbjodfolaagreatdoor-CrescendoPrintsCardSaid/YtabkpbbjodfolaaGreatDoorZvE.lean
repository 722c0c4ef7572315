/- Package spec: footage; (*checker).division where all is well. -/
import Derived.Test.YtabkpbbjodfolaaGreatDoorZvB
import Derived.Test.YtabkpbbjodfolaaGreatDoorZvD
import Derived.Test.YtabkpbbjodfolaaGreatDoorZvA
import Derived.Deep.MidRow
import Derived.Deep.RegionHeld3
namespace Go.Proofs.YtabkpbbjodfolaaGreatDoor
set_option linter.unusedSimpArgs false
open Go.RowKit
set_option linter.unusedVariables false
set_option maxHeartbeats 1600000 in
theorem footage_any (num den : Int) (w : World) : Calls Tryz.prog 139 #[.agg #[.int .i64 num, .int .i64 den]] w fun e w' => e = .returned (.bool (decide (vF num den))) ∧ Below w.heap.size w w' := by
  have hu : Below w.heap.size w (w.alloc (.cells #[.int .i64 num, .int .i64 den] 87)) := (Below.refl _ _).alloc (Nat.le_refl _) _; have HU : Sl _ := ⟨hu⟩; have HF : Sl _ := ⟨fun W : World => feet_any num den W⟩; clear hu
  by_cases hv : vF num den
  · have HV : Sl _ := ⟨decide_eq_true hv⟩; simp only [if_pos hv] at HF; rw [HV.out]; clear hv; go_enter Tryz.func139, Tryz.ntmps139; go_wp2_with fail; refine (HF.out _).mono ?_; rintro e w1 ⟨⟨s, rfl⟩, hb⟩; have HB : Sl _ := ⟨HU.out.trans (hb.mono HU.out.size)⟩; clear hb; go_wp2_with fail; go_ret; exact ⟨rfl, HB.out⟩
  · have HV : Sl _ := ⟨decide_eq_false hv⟩; simp only [if_neg hv] at HF; rw [HV.out]; clear hv; go_enter Tryz.func139, Tryz.ntmps139; go_wp2_with fail; refine (HF.out _).mono ?_; rintro e w1 ⟨⟨s, rfl⟩, hb⟩; have HB : Sl _ := ⟨HU.out.trans (hb.mono HU.out.size)⟩; clear hb; go_wp2_with fail; go_ret; exact ⟨rfl, HB.out⟩
end Go.Proofs.YtabkpbbjodfolaaGreatDoor
namespace Go.Proofs.YtabkpbbjodfolaaGreatDoor
set_option linter.unusedSimpArgs false
open Go.RowKit
set_option linter.unusedVariables false
structure Mv (g : Nat) (w w' : World) : Prop where
  os : w'.os = w.os
  tape : w'.tape = w.tape
  output : w'.output = w.output
  size : w.heap.size ≤ w'.heap.size
  block : ∀ k, k < w.heap.size → k ≠ g → w'.heap[k]? = w.heap[k]?
theorem Mv.of_below {w w' : World} (h : Below w.heap.size w w') : Mv w.heap.size w w' := ⟨h.os, h.tape, h.output, h.size, fun k hk _ => h.block k hk⟩
theorem Mv.refl (g : Nat) (w : World) : Mv g w w := ⟨rfl, rfl, rfl, Nat.le_refl _, fun _ _ _ => rfl⟩
theorem Mv.drewN {g : Nat} {w w' : World} (h : Mv g w w') (n : Nat) : Mv g w (w'.drewN n) := ⟨h.os, h.tape, h.output, h.size, h.block⟩
theorem Blk.mv {w w' : World} {b g : Nat} {t : TypeId} {cs : Array Value} (h : Blk w b t cs) (hm : Mv g w w') (hne : b ≠ g) : Blk w' b t cs := (hm.block b h.lt hne).trans h
theorem below_mv {B g : Nat} {w0 w w' : World} (h : Below B w0 w) (hm : Mv g w w') (hg : B ≤ g) (hB : B ≤ w.heap.size) : Below B w0 w' :=
  ⟨hm.os.trans h.os, hm.tape.trans h.tape, hm.output.trans h.output, Nat.le_trans h.size hm.size, fun k hk => (hm.block k (by omega) (by omega)).trans (h.block k hk)⟩
theorem setCells_os (g : Nat) : ∀ (vs : List Value) (o : Nat) (w : World), (w.setCells g o vs).os = w.os ∧ (w.setCells g o vs).tape = w.tape ∧ (w.setCells g o vs).output = w.output ∧ (w.setCells g o vs).heap.size = w.heap.size ∧ ∀ k, k ≠ g → (w.setCells g o vs).heap[k]? = w.heap[k]?
  | [], _, w => ⟨rfl, rfl, rfl, rfl, fun _ _ => rfl⟩
  | v :: r, o, w => by
    rw [World.setCells]; obtain ⟨h1, h2, h3, h4, h5⟩ := setCells_os g r (o + 1) (w.setCell ⟨g, o, none⟩ v); refine ⟨h1.trans rfl, h2.trans rfl, h3.trans rfl, h4.trans (by simp [World.setCell]), fun k hk => (h5 k hk).trans ?_⟩; exact Below.heap_setCell w ⟨g, o, none⟩ v k hk
theorem Mv.setCells (w : World) (g o : Nat) (vs : List Value) : Mv g w (w.setCells g o vs) := by
  obtain ⟨h1, h2, h3, h4, h5⟩ := setCells_os g vs o w; exact ⟨h1, h2, h3, Nat.le_of_eq h4.symm, fun k _ hk => h5 k hk⟩
theorem setCells_size (w : World) (g o : Nat) (vs : List Value) : (w.setCells g o vs).heap.size = w.heap.size := (setCells_os g vs o w).2.2.2.1
def putA (cs : Array Value) : Nat → List Value → Array Value
  | _, [] => cs
  | o, v :: r => putA (cs.setIfInBounds o v) (o + 1) r
theorem Blk.setCells {w : World} {g : Nat} {t : TypeId} : ∀ (vs : List Value) (o : Nat) (w : World) (cs : Array Value), Blk w g t cs → Blk (w.setCells g o vs) g t (putA cs o vs)
  | [], _, _, _, h => h
  | v :: r, o, w, cs, h => by
    rw [World.setCells, putA]; exact Blk.setCells (w := w) r (o + 1) _ _ (h.set_ o v)
theorem putA_size : ∀ (vs : List Value) (cs : Array Value) (o : Nat), (putA cs o vs).size = cs.size
  | [], _, _ => rfl
  | v :: r, cs, o => by rw [putA, putA_size r]; simp
theorem putA_get : ∀ (vs : List Value) (cs : Array Value) (o j : Nat), o + vs.length ≤ cs.size → (putA cs o vs)[j]? = if o ≤ j ∧ j < o + vs.length then vs[j - o]? else cs[j]?
  | [], cs, o, j, _ => by
    rw [putA, if_neg (by rw [List.length_nil]; omega)]
  | v :: r, cs, o, j, h => by
    rw [List.length_cons] at h; rw [putA, putA_get r _ (o + 1) j (by simp; omega), List.length_cons]
    by_cases h1 : o + 1 ≤ j ∧ j < o + 1 + r.length
    · rw [if_pos h1, if_pos (by omega), show j - o = (j - (o + 1)) + 1 by omega, List.getElem?_cons_succ]
    · rw [if_neg h1]
      by_cases h2 : j = o
      · subst h2; rw [if_pos (by omega), Nat.sub_self, List.getElem?_cons_zero, Array.getElem?_setIfInBounds_self_of_lt (by omega)]
      · rw [if_neg (by omega), Array.getElem?_setIfInBounds_ne (by omega)]
theorem putA_all (cs vs : Array Value) (h : vs.size = cs.size) : putA cs 0 vs.toList = vs := by
  have hl : vs.toList.length = vs.size := (by simp); apply Array.ext_getElem?; intro j; rw [putA_get _ _ _ _ (by omega)]
  by_cases hj : j < vs.size
  · rw [if_pos (by omega), Nat.sub_zero, Array.getElem?_toList]
  · rw [if_neg (by omega), Array.getElem?_eq_none (by omega), Array.getElem?_eq_none (by omega)]
section
variable {P : Program} {ops : Array Oper} {rest : List Oper} {op : Oper} {a : Act} {w : World} {Q : Exit → Act → World → Prop}
theorem wpList_load_whole (hgd : op.guard = none) (ty : TypeId) (x : Operand) (ho : op.op = .load ty x)
    (g : Nat) (hx : a.eval x = .pointer (some ⟨g, 0, none⟩)) (t : TypeId) (cs : Array Value) (d : TypeDesc) (hB : Blk w g t cs)
    (hu : P.underlying ty = some d) (hd : d.isRow = true) (hi : (P.info? ty).map (·.size) = some cs.size)
    (h : wpList P ops Q rest (a.put op.dst (.agg cs)) w) : wpList P ops Q (op :: rest) a w := by
  have hr : w.rangeAt g 0 cs.toList := by
    have := World.rangeAt_of_block hB 0 cs.size; rw [Nat.zero_add, Array.extract_size] at this; exact this
  refine wpList_load_mid hgd ty x ho g 0 hx cs.toList d hr hu hd (by rw [hi]; simp) ?_; rw [Array.toArray_toList]; exact h
theorem Blk.there {g : Nat} {t : TypeId} {cs : Array Value} (h : Blk w g t cs) (o n : Nat) (hn : o + n ≤ cs.size) : w.there g o n := fun j hj => by
  refine ⟨?_, h.frozen _⟩; rw [h.cell, Array.getElem?_eq_getElem (by omega)]; rfl
theorem wpList_store_part (hgd : op.guard = none) (ty : TypeId) (x y : Operand) (ho : op.op = .store ty x y)
    (g o : Nat) (cells : Array Value) (hx : a.eval x = .pointer (some ⟨g, o, none⟩)) (hy : a.eval y = .agg cells)
    (t : TypeId) (cs cs' : Array Value) (hB : Blk w g t cs) (hn : o + cells.size ≤ cs.size) (hp : putA cs o cells.toList = cs')
    (hi : (P.info? ty).map (·.size) = some cells.size) (h1 : cells.all (·.oneCell') = true)
    (h : ∀ w', Mv g w w' → w'.heap.size = w.heap.size → Blk w' g t cs' → wpList P ops Q rest (a.put op.dst undef) w') : wpList P ops Q (op :: rest) a w := by
  refine wpList_store_mid hgd ty x y ho g o cells hx hy (hB.there o _ hn) hi h1 (h _ (Mv.setCells _ _ _ _) (setCells_size _ _ _ _) ?_); rw [← hp]; exact Blk.setCells (w := w) _ _ _ _ hB
theorem wpList_store_whole (hgd : op.guard = none) (ty : TypeId) (x y : Operand) (ho : op.op = .store ty x y)
    (g : Nat) (cells : Array Value) (hx : a.eval x = .pointer (some ⟨g, 0, none⟩)) (hy : a.eval y = .agg cells)
    (t : TypeId) (cs : Array Value) (hB : Blk w g t cs) (hn : cells.size = cs.size)
    (hi : (P.info? ty).map (·.size) = some cells.size) (h1 : cells.all (·.oneCell') = true)
    (h : ∀ w', Mv g w w' → w'.heap.size = w.heap.size → Blk w' g t cells → wpList P ops Q rest (a.put op.dst undef) w') : wpList P ops Q (op :: rest) a w :=
  wpList_store_part hgd ty x y ho g 0 cells hx hy t cs cells hB (by omega) (putA_all cs cells hn) hi h1 h
theorem wpList_alloc_new (k : Tmp) (hdst : op.dst = some k) (hgd : op.guard = none) (ty : TypeId) (ho : op.op = .alloc ty) (cells : Array Value)
    (hz : ∀ w, (Instr.alloc ty true (.tuple #[])).run P w = .ok (.pointer (some ⟨w.heap.size, 0, none⟩)) (w.alloc (.cells cells ty)))
    (h : ∀ w' g, g = w.heap.size → Mv w.heap.size w w' → w'.heap.size = g + 1 → Blk w' g ty cells → wpList P ops Q rest (a.put op.dst (.pointer (some ⟨g, 0, none⟩))) w') : wpList P ops Q (op :: rest) a w := by
  refine wpList_plain hgd fun K hK => ?_
  have hrun : (execOp a.eval op).run P w = .ok (.value (.pointer (some ⟨w.heap.size, 0, none⟩))) (w.alloc (.cells cells ty)) := by
    unfold execOp; simp only [ho, Sem.run_bind, hz, Result.andThen_ok, Sem.run_pure]
  unfold Oper.wp; rw [hrun, Oper.upon_value]; exact hK _ _ (h _ _ rfl (Mv.of_below ((Below.refl _ _).alloc (Nat.le_refl _) _)) (by simp) (Blk.new w ty cells))
theorem wpList_box_new (k : Tmp) (hdst : op.dst = some k) (hgd : op.guard = none) (ty : TypeId) (x : Operand) (ho : op.op = .box ty x) (cells : Array Value) (hx : a.eval x = .agg cells)
    (hz : ∀ w, (Instr.box ty (.agg cells)).run P w = .ok (.pointer (some ⟨w.heap.size, 0, none⟩)) (w.alloc (.cells cells ty)))
    (h : ∀ w' g, g = w.heap.size → Mv w.heap.size w w' → w'.heap.size = g + 1 → Blk w' g ty cells → wpList P ops Q rest (a.put op.dst (.pointer (some ⟨g, 0, none⟩))) w') : wpList P ops Q (op :: rest) a w := by
  refine wpList_plain hgd fun K hK => ?_
  have hrun : (execOp a.eval op).run P w = .ok (.value (.pointer (some ⟨w.heap.size, 0, none⟩))) (w.alloc (.cells cells ty)) := by
    unfold execOp; simp only [ho, hx, Sem.run_bind, hz, Result.andThen_ok, Sem.run_pure]
  unfold Oper.wp; rw [hrun, Oper.upon_value]; exact hK _ _ (h _ _ rfl (Mv.of_below ((Below.refl _ _).alloc (Nat.le_refl _) _)) (by simp) (Blk.new w ty cells))
end
theorem Mv.trans {g : Nat} {a b c : World} (h : Mv g a b) (k : Mv g b c) : Mv g a c :=
  ⟨k.os.trans h.os, k.tape.trans h.tape, k.output.trans h.output, Nat.le_trans h.size k.size, fun i hi hne => (k.block i (by have := h.size; omega) hne).trans (h.block i hi hne)⟩
theorem Mv.below {g : Nat} {a b : World} (h : Below a.heap.size a b) : Mv g a b := ⟨h.os, h.tape, h.output, h.size, fun k hk _ => h.block k hk⟩
theorem Mv.drew (g : Nat) (w : World) : Mv g w w.drew := ⟨rfl, rfl, rfl, Nat.le_refl _, fun _ _ _ => rfl⟩
section
variable {P : Program} {ops : Array Oper} {Q : Exit → Act → World → Prop} {md : Region.Mode} {S : World → Prop}
theorem wpAnyH_one (i : Nat) {oi : Oper} {fuel : Nat} {listed : Array Bool} {a : Act} {w : World} (hi0 : ops.toList[i]? = some oi) (hr : Region.ready md ops listed = [i]) (hg : oi.guard = none)
    (h : ∀ K' : Act → World → Prop, Shut (∀ a w, S w → (S w → wpAnyH P md ops Q S fuel (listed.setIfInBounds i true) a w) → K' a w) → Oper.wp P oi a w K' Q) : wpAnyH P md ops Q S (fuel + 1) listed a w :=
  have hi : ops[i]? = some oi := (by rw [← Array.getElem?_toList]; exact hi0)
  wpAnyH_ready hr (by simp) (AllReadyH.cons hi (fun K' hK => by
    have hw : Region.wanted oi (yielded ops a.tmps) = true := (by simp [Region.wanted, hg]); rw [if_pos hw]
    exact h K' hK) AllReadyH.nil)
theorem wpAnyH_onew (i : Nat) {oi : Oper} {fuel : Nat} {listed : Array Bool} {a : Act} {w : World} (hi0 : ops.toList[i]? = some oi) (hr : Region.ready md ops listed = [i]) (hw : Region.wanted oi (yielded ops a.tmps) = true)
    (h : ∀ K' : Act → World → Prop, Shut (∀ a w, S w → (S w → wpAnyH P md ops Q S fuel (listed.setIfInBounds i true) a w) → K' a w) → Oper.wp P oi a w K' Q) : wpAnyH P md ops Q S (fuel + 1) listed a w :=
  have hi : ops[i]? = some oi := (by rw [← Array.getElem?_toList]; exact hi0)
  wpAnyH_ready hr (by simp) (AllReadyH.cons hi (fun K' hK => by
    rw [if_pos hw]
    exact h K' hK) AllReadyH.nil)
theorem wpAnyH_pure (i : Nat) {oi : Oper} {v : Value} {fuel : Nat} {listed : Array Bool} {a : Act} {w : World} (hi0 : ops.toList[i]? = some oi)
    (hs : Region.noSelect ops = true) (hf : Region.free md ops listed i = true) (hr : (Region.ready md ops listed).contains i = true)
    (hQ : ∀ c a w, Q (.panic c) (a.put oi.dst v) w → Q (.panic c) a w) (hg : oi.guard = none) (hy : ∀ w, (execOp a.eval oi).run P w = .ok (.value v) w) (hS : S w)
    (h : wpAnyH P md ops Q S fuel (listed.setIfInBounds i true) (a.put oi.dst v) w) : wpAnyH P md ops Q S (fuel + 1) listed a w :=
  have hi : ops[i]? = some oi := (by rw [← Array.getElem?_toList]; exact hi0)
  wpAnyH_take hi hs hf hr hQ (.inl ⟨by simp [Region.wanted, hg], fun w _ => hy w⟩) hS h
theorem wpAnyH_load (i : Nat) {oi : Oper} {fuel : Nat} {listed : Array Bool} {a : Act} {w : World} (ty : TypeId) (x : Operand) (hi0 : ops.toList[i]? = some oi) (ho : oi.op = .load ty x) (hg : oi.guard = none)
    (g o : Nat) (hx : a.eval x = .pointer (some ⟨g, o, none⟩)) (vs : Array Value) (d : TypeDesc) (hR : ∀ w, S w → w.rangeAt g o vs.toList) (hu : P.underlying ty = some d) (hd : d.isRow = true) (hz : (P.info? ty).map (·.size) = some vs.size)
    (hs : Region.noSelect ops = true) (hf : Region.free md ops listed i = true) (hr : (Region.ready md ops listed).contains i = true)
    (hQ : ∀ c a w, Q (.panic c) (a.put oi.dst (.agg vs)) w → Q (.panic c) a w) (hS : S w)
    (h : wpAnyH P md ops Q S fuel (listed.setIfInBounds i true) (a.put oi.dst (.agg vs)) w) : wpAnyH P md ops Q S (fuel + 1) listed a w := by
  have hi : ops[i]? = some oi := (by rw [← Array.getElem?_toList]; exact hi0); have hy := yieldsIf_load_mid (P := P) (ops := ops) (S := S) (op := oi) (a := a) (by simp [Region.wanted, hg]) ty x ho g o hx vs.toList d hR hu hd (by rw [hz]; simp); rw [Array.toArray_toList] at hy; exact wpAnyH_take hi hs hf hr hQ hy hS h
theorem wpAnyH_cell (i : Nat) {oi : Oper} {fuel : Nat} {listed : Array Bool} {a : Act} {w : World} {v : Value} (hi0 : ops.toList[i]? = some oi) (hg : oi.guard = none)
    (hy : ∀ w, S w → (execOp a.eval oi).run P w = .ok (.value v) w)
    (hs : Region.noSelect ops = true) (hf : Region.free md ops listed i = true) (hr : (Region.ready md ops listed).contains i = true)
    (hQ : ∀ c a w, Q (.panic c) (a.put oi.dst v) w → Q (.panic c) a w) (hS : S w)
    (h : wpAnyH P md ops Q S fuel (listed.setIfInBounds i true) (a.put oi.dst v) w) : wpAnyH P md ops Q S (fuel + 1) listed a w :=
  have hi : ops[i]? = some oi := (by rw [← Array.getElem?_toList]; exact hi0)
  wpAnyH_take hi hs hf hr hQ (.inl ⟨by simp [Region.wanted, hg], hy⟩) hS h
end
section
variable {P : Program} {op : Oper} {a : Act} {w : World} {K : Act → World → Prop} {Q : Exit → Act → World → Prop}
end
theorem own_mv {w w' : World} {g base size n : Nat} {e : TypeId} {v : Value} {xs : List Value} (h : w.ownsRow base e size v n xs) (hm : Mv g w w') (hne : ∀ k, v.ownBlock = some k → k ≠ g) : w'.ownsRow base e size v n xs := by
  refine ⟨h.1, ?_⟩; rcases h.2 with h0 | ⟨b, cap, cur, e1, hb, hh, h1⟩
  · exact .inl h0
  · subst e1; exact .inr ⟨b, cap, cur, rfl, hb, (hm.block b (Blk.lt (t := e) (cs := cur) hh) (hne b rfl)).trans hh, h1⟩
theorem Sl.v {g : Nat} {w0 w w' : World} (h : Sl (Below w0.heap.size w0 w)) (hm : Mv g w w') (hg : w0.heap.size ≤ g) : Sl (Below w0.heap.size w0 w') := ⟨below_mv h.out hm hg h.out.size⟩
theorem Sl.w {b g : Nat} {t : TypeId} {cs : Array Value} {w w' : World} (h : Sl (Blk w b t cs)) (hm : Mv g w w') (hne : b ≠ g) : Sl (Blk w' b t cs) := ⟨h.out.mv hm hne⟩
theorem Sl.x {b : Nat} {t : TypeId} {cs : Array Value} {w w' : World} (h : Sl (Blk w b t cs)) (hb : Below w.heap.size w w') : Sl (Blk w' b t cs) := ⟨h.out.below hb h.out.lt⟩
theorem Sl.y {w0 w w' : World} (h : Sl (Below w0.heap.size w0 w)) (hb : Below w.heap.size w w') : Sl (Below w0.heap.size w0 w') := ⟨h.out.trans (hb.mono h.out.size)⟩
theorem sS0 {α : Type} (l : List α) (i : Nat) (a : α) : l.toArray.setIfInBounds i a = (l.set i a).toArray := List.setIfInBounds_toArray ..
theorem sS1 {α : Type} (a b : α) (l : List α) : (a :: l).set 0 b = b :: l := rfl
theorem sS2 {α : Type} (a b : α) (l : List α) (n : Nat) : (a :: l).set (n + 1) b = a :: l.set n b := rfl
section
variable {P : Program} {ops : Array Oper} {Q : Exit → Act → World → Prop} {md : Region.Mode} {S : World → Prop}
theorem wpAnyH_cellg (i : Nat) {oi : Oper} {fuel : Nat} {listed : Array Bool} {a : Act} {w : World} {v : Value} (hi0 : ops.toList[i]? = some oi) (hg : Region.wanted oi (yielded ops a.tmps) = true)
    (hy : ∀ w, S w → (execOp a.eval oi).run P w = .ok (.value v) w)
    (hs : Region.noSelect ops = true) (hf : Region.free md ops listed i = true) (hr : (Region.ready md ops listed).contains i = true)
    (hQ : ∀ c a w, Q (.panic c) (a.put oi.dst v) w → Q (.panic c) a w) (hS : S w)
    (h : wpAnyH P md ops Q S fuel (listed.setIfInBounds i true) (a.put oi.dst v) w) : wpAnyH P md ops Q S (fuel + 1) listed a w :=
  have hi : ops[i]? = some oi := (by rw [← Array.getElem?_toList]; exact hi0)
  wpAnyH_take hi hs hf hr hQ (.inl ⟨hg, hy⟩) hS h
theorem wpAnyH_pureg (i : Nat) {oi : Oper} {v : Value} {fuel : Nat} {listed : Array Bool} {a : Act} {w : World} (hi0 : ops.toList[i]? = some oi)
    (hs : Region.noSelect ops = true) (hf : Region.free md ops listed i = true) (hr : (Region.ready md ops listed).contains i = true)
    (hQ : ∀ c a w, Q (.panic c) (a.put oi.dst v) w → Q (.panic c) a w) (hg : Region.wanted oi (yielded ops a.tmps) = true) (hy : ∀ w, (execOp a.eval oi).run P w = .ok (.value v) w) (hS : S w)
    (h : wpAnyH P md ops Q S fuel (listed.setIfInBounds i true) (a.put oi.dst v) w) : wpAnyH P md ops Q S (fuel + 1) listed a w :=
  have hi : ops[i]? = some oi := (by rw [← Array.getElem?_toList]; exact hi0)
  wpAnyH_take hi hs hf hr hQ (.inl ⟨hg, fun w _ => hy w⟩) hS h
theorem wpAnyH_no (i : Nat) {oi : Oper} {fuel : Nat} {listed : Array Bool} {a : Act} {w : World} (hi0 : ops.toList[i]? = some oi)
    (hs : Region.noSelect ops = true) (hf : Region.free md ops listed i = true) (hr : (Region.ready md ops listed).contains i = true)
    (hQ : ∀ c a w, Q (.panic c) (a.put oi.dst undef) w → Q (.panic c) a w) (hg : Region.wanted oi (yielded ops a.tmps) = false) (hS : S w)
    (h : wpAnyH P md ops Q S fuel (listed.setIfInBounds i true) (a.put oi.dst undef) w) : wpAnyH P md ops Q S (fuel + 1) listed a w :=
  have hi : ops[i]? = some oi := (by rw [← Array.getElem?_toList]; exact hi0)
  wpAnyH_take hi hs hf hr hQ (.inr ⟨hg, rfl⟩) hS h
end
theorem wpList_store_cell {P : Program} {ops : Array Oper} {rest : List Oper} {op : Oper} {a : Act} {w : World} {Q : Exit → Act → World → Prop} (hgd : op.guard = none) (ty : TypeId) (x y : Operand) (ho : op.op = .store ty x y)
    (g o : Nat) (v : Value) (hx : a.eval x = .pointer (some ⟨g, o, none⟩)) (hy : a.eval y = v)
    (t : TypeId) (cs cs' : Array Value) (hB : Blk w g t cs) (hn : o < cs.size) (hp : cs.setIfInBounds o v = cs')
    (hi : (P.info? ty).map (·.size) = some 1) (hv : v.cells = #[v]) (hv1 : v.oneCell' = true)
    (h : ∀ w', Mv g w w' → w'.heap.size = w.heap.size → Blk w' g t cs' → w' = w.setCell ⟨g, o, none⟩ v → wpList P ops Q rest (a.put op.dst undef) w') : wpList P ops Q (op :: rest) a w := by
  have ht := hB.there o 1 (by omega)
  have hrun : (storeVar ty ⟨g, o, none⟩ v).run P w = .ok () (w.setCells g o [v]) := by
    have := run_storeCells_cells (P := P) g o [v] 0 w (fun j hj => by simpa using (ht j (by simpa using hj)).1) (fun j hj => by simpa using (ht j (by simpa using hj)).2)
      (fun u hu => by simp at hu; subst hu; exact hv1)
    cases hq : P.info? ty with
    | none => simp [hq] at hi
    | some i =>
      have hs : i.size = 1 := (by simpa [hq] using hi); simp only [Nat.add_zero] at this; simp [storeVar, sizeOf, typeInfo, hq, hv, hs, this]
  refine wpList_plain hgd fun _ hK => ?_
  unfold Oper.wp execOp; simp only [ho, hx, hy, Instr.storeAt, Instr.sureAddr, Sem.run_bind, Sem.run_pure, Result.andThen_ok, hrun]; refine hK _ _ (h _ (Mv.setCells _ _ _ _) (setCells_size _ _ _ _) ?_ rfl); rw [← hp]; exact Blk.setCells (w := w) [v] o _ _ hB
theorem Mv.of_grown {w w' : World} {row : Option Nat} {g : Nat} (h : w.grownBy w' row) (hr : ∀ k, row = some k → k = g) : Mv g w w' := by
  obtain ⟨h1, h2, h3, h4, h5⟩ := h; exact ⟨h1, h2, h3, h4, fun k hk hne => h5 k hk (fun e => hne (hr k e.symm))⟩
end Go.Proofs.YtabkpbbjodfolaaGreatDoor
namespace Go.Proofs.YtabkpbbjodfolaaGreatDoor
set_option linter.unusedSimpArgs false
open Go.RowKit
set_option linter.unusedVariables false
theorem flG_get {α : Type} (f : α → List Value) (sz : Nat) (hf : ∀ p, (f p).length = sz) : ∀ (l : List α) (i : Nat) (p : α) (t : Nat), l[i]? = some p → t < sz → (l.flatMap f)[i * sz + t]? = (f p)[t]?
  | [], i, p, t, h, _ => by cases h
  | y :: l, 0, p, t, h, ht => by
    have : y = p := (by simpa using h); subst this; rw [Nat.zero_mul, Nat.zero_add, List.flatMap_cons, List.getElem?_append_left (by rw [hf]; exact ht)]
  | y :: l, i+1, p, t, h, ht => by
    have h1 : l[i]? = some p := (by simpa using h); rw [List.flatMap_cons, List.getElem?_append_right (by rw [hf, Nat.succ_mul]; omega), hf, show (i + 1) * sz + t - sz = i * sz + t by rw [Nat.succ_mul]; omega]; exact flG_get f sz hf l i p t h1 ht
theorem flG_len {α : Type} (f : α → List Value) (sz : Nat) (hf : ∀ p, (f p).length = sz) : ∀ l : List α, (l.flatMap f).length = l.length * sz
  | [] => by simp
  | y :: l => by rw [List.flatMap_cons, List.length_append, flG_len f sz hf l, hf, List.length_cons, Nat.succ_mul]; omega
structure RowG {α : Type} (w : World) (A : Option Addr) (n sz : Nat) (f : α → List Value) (l : List α) : Prop where
  len : l.length = n
  rd : Reads w w.heap.size sz A n (l.flatMap f)
  fix : ∀ p, (f p).length = sz
theorem RowG.below {α : Type} {w w' : World} {A : Option Addr} {n sz : Nat} {f : α → List Value} {l : List α} (h : RowG w A n sz f l) (hb : Below w.heap.size w w') : RowG w' A n sz f l := ⟨h.len, (h.rd.below hb).more hb.size, h.fix⟩
theorem RowG.nil {α : Type} (w : World) (A : Option Addr) (sz : Nat) (f : α → List Value) (hf : ∀ p, (f p).length = sz) : RowG w A 0 sz f [] := ⟨rfl, ⟨by simp, fun h => absurd h (by omega)⟩, hf⟩
theorem RowG.at_ {α : Type} {w : World} {A : Option Addr} {n sz : Nat} {f : α → List Value} {l : List α} (h : RowG w A n sz f l) (hsz : 0 < sz) {i : Nat} (hi : i < n) :
    ∃ gb o p, A = some ⟨gb, o, none⟩ ∧ gb < w.heap.size ∧ l[i]? = some p ∧ w.rangeAt gb (o + i * sz) (f p) := by
  obtain ⟨ad, e, hb, hc⟩ := h.rd.2 (by omega); have hl := h.len
  have key : ∀ (t : Nat) (u : Value), (f (l[i]'(by omega)))[t]? = some u → w.cell? (ad.add (i * sz + t)) = some u := fun t u ht => by
    have htl : t < sz := by
      rcases Nat.lt_or_ge t sz with h1 | h1
      · exact h1
      · rw [List.getElem?_eq_none (by rw [h.fix]; exact h1)] at ht; cases ht
    refine hc _ _ ?_; rw [flG_get f sz h.fix l i _ t (List.getElem?_eq_getElem (by omega)) htl]; exact ht
  have h0 : ∃ u, (l.flatMap f)[0]? = some u := ⟨_, List.getElem?_eq_getElem (by rw [flG_len f sz h.fix]; exact Nat.mul_pos (by omega) hsz)⟩; obtain ⟨u0, h0⟩ := h0; have c0 := hc 0 u0 h0; obtain ⟨gb, o, sp⟩ := ad
  have hsp : sp = none := by
    cases sp with
    | none => rfl
    | some s =>
      have e : (⟨gb, o, some s⟩ : Addr).add 0 = ⟨gb, o, some s⟩ := (by simp [Addr.add]); rw [e] at c0; unfold World.cell? at c0
      split at c0
      · simp at c0
      · cases c0
  subst hsp; refine ⟨gb, o, l[i]'(by omega), e, hb, List.getElem?_eq_getElem (by omega), fun t u ht => ?_⟩; have := key t u ht; rw [Addr.add_mid] at this; rw [show o + i * sz + t = o + (i * sz + t) by omega]; exact this
structure DvV where
  nm : ByteArray
  lo : Int
  hi : Int
def DvV.cells (x : DvV) : List Value := [.string x.nm, .int .i64 x.lo, .int .i64 x.hi]
structure RnV where
  nm : ByteArray
  kd : Int
  fn : Int
  fd : Int
  lo : Int
  ct : Int
def RnV.cells (x : RnV) : List Value := [.string x.nm, .int .i64 x.kd, .int .i64 x.fn, .int .i64 x.fd, .int .i64 x.lo, .int .i64 x.ct]
structure PrV where
  rk : Int
  sh : Int
  lo : Int
  hi : Int
def PrV.cells (x : PrV) : List Value := [.int .i64 x.rk, .int .i64 x.sh, .int .i64 x.lo, .int .i64 x.hi]
structure SpV where
  nm : ByteArray
  dv : Int
  fn : Int
  fd : Int
  A : Option Addr
  n : Nat
  c : Nat
  ps : List PrV
def SpV.cells (x : SpV) : List Value := [.string x.nm, .int .i64 x.dv, .int .i64 x.fn, .int .i64 x.fd, .slice x.A x.n x.c]
structure CpV where
  nm : ByteArray
  fr : Int
  tt : Int
  sh : Int
  on : Int
  th : Bool
def CpV.cells (x : CpV) : List Value := [.string x.nm, .int .i64 x.fr, .int .i64 x.tt, .int .i64 x.sh, .int .i64 x.on, .bool x.th]
structure SpO where
  A1 : Option Addr
  n1 : Nat
  c1 : Nat
  ds : List DvV
  A2 : Option Addr
  n2 : Nat
  c2 : Nat
  rs : List RnV
  A3 : Option Addr
  n3 : Nat
  c3 : Nat
  ss : List SpV
  A4 : Option Addr
  n4 : Nat
  c4 : Nat
  cs : List CpV
def SpO.cells (o : SpO) : List Value := [.slice o.A1 o.n1 o.c1, .slice o.A2 o.n2 o.c2, .slice o.A3 o.n3 o.c3, .slice o.A4 o.n4 o.c4]
structure SpM (w : World) (o : SpO) : Prop where
  d : RowG w o.A1 o.n1 3 DvV.cells o.ds
  r : RowG w o.A2 o.n2 6 RnV.cells o.rs
  s : RowG w o.A3 o.n3 5 SpV.cells o.ss
  c : RowG w o.A4 o.n4 6 CpV.cells o.cs
  p : ∀ x ∈ o.ss, RowG w x.A x.n 4 PrV.cells x.ps
theorem SpM.below {w w' : World} {o : SpO} (h : SpM w o) (hb : Below w.heap.size w w') : SpM w' o := ⟨h.d.below hb, h.r.below hb, h.s.below hb, h.c.below hb, fun x hx => (h.p x hx).below hb⟩
structure SpF (o : SpO) : Prop where
  cap : (o.n1 ≤ o.c1 ∧ o.c1 ≤ maxLen) ∧ (o.n2 ≤ o.c2 ∧ o.c2 ≤ maxLen) ∧ (o.n3 ≤ o.c3 ∧ o.c3 ≤ maxLen) ∧ (o.n4 ≤ o.c4 ∧ o.c4 ≤ maxLen)
  d : ∀ x ∈ o.ds, x.nm.size ≤ maxLen ∧ i64 x.lo ∧ i64 x.hi
  r : ∀ x ∈ o.rs, x.nm.size ≤ maxLen ∧ i64 x.kd ∧ i64 x.fn ∧ i64 x.fd ∧ i64 x.lo ∧ i64 x.ct
  s : ∀ x ∈ o.ss, x.nm.size ≤ maxLen ∧ i64 x.dv ∧ i64 x.fn ∧ i64 x.fd ∧ (x.n ≤ x.c ∧ x.c ≤ maxLen) ∧ ∀ p ∈ x.ps, i64 p.rk ∧ i64 p.sh ∧ i64 p.lo ∧ i64 p.hi
  c : ∀ x ∈ o.cs, x.nm.size ≤ maxLen ∧ i64 x.fr ∧ i64 x.tt ∧ i64 x.sh ∧ i64 x.on
abbrev Keys := List (List UInt8)
def wiB (a b c : Int) : Bool := decide (b ≤ a) && decide (a ≤ c)
def nmdE (l : Keys) (k nm : ByteArray) : Int := if nmB nm = true then (if (keyN k nm).data.toList ∈ l then 8 else 0) else 6
def nmdL (l : Keys) (k nm : ByteArray) : Keys := if nmB nm = true ∧ (keyN k nm).data.toList ∉ l then (keyN k nm).data.toList :: l else l
def kDv : ByteArray := ⟨#[100, 105, 118, 105, 115, 105, 111, 110]⟩
def kRn : ByteArray := ⟨#[114, 97, 110, 107]⟩
def kCp : ByteArray := ⟨#[99, 111, 117, 112, 108, 101, 114]⟩
def kSt (d : Int) : ByteArray := ⟨#[115, 116, 111, 112, 32]⟩ ++ ⟨(Lib.decDigits d.toNat).toArray⟩
def divE (l : Keys) (x : DvV) : Int := if nmdE l kDv x.nm = 0 then (if wiB x.lo 0 127 && wiB x.hi x.lo (min 127 (x.lo + 60)) then 0 else 7) else nmdE l kDv x.nm
def divL (l : Keys) (x : DvV) : Keys := nmdL l kDv x.nm
def rnkE (l : Keys) (x : RnV) : Int := if nmdE l kRn x.nm = 0 then (if wiB x.kd 1 4 && decide (vF x.fn x.fd) then (if wiB x.ct 1 97 && wiB x.lo 0 (128 - x.ct) then 0 else 7) else 2) else nmdE l kRn x.nm
def rnkL (l : Keys) (x : RnV) : Keys := nmdL l kRn x.nm
def stpE (nd : Nat) (l : Keys) (x : SpV) : Int :=
  if nmB x.nm = false then 6 else if wiB x.dv 0 ((nd : Int) - 1) = false then 4 else if nmdE l (kSt x.dv) x.nm = 0 then (if decide (vF x.fn x.fd) = false ∨ x.n = 0 then 2 else if 12 < x.n then 3 else 0) else nmdE l (kSt x.dv) x.nm
def stpL (nd : Nat) (l : Keys) (x : SpV) : Keys := if nmB x.nm = false then l else if wiB x.dv 0 ((nd : Int) - 1) = false then l else nmdL l (kSt x.dv) x.nm
def rn0 : RnV := ⟨⟨#[]⟩, 0, 0, 0, 0, 0⟩
def dv0 : DvV := ⟨⟨#[]⟩, 0, 0⟩
def prtE (rs : List RnV) (d : DvV) (p : PrV) : Int :=
  if wiB p.rk 0 ((rs.length : Int) - 1) = false then 4 else if wiB p.lo d.lo d.hi && (wiB p.hi p.lo d.hi && wiB p.sh (-96) 96) then
    (if p.lo + p.sh < (rs[p.rk.toNat]?.getD rn0).lo ∨ (rs[p.rk.toNat]?.getD rn0).lo + (rs[p.rk.toNat]?.getD rn0).ct ≤ p.hi + p.sh then 4 else 0) else 7
def cplE (nd : Nat) (l : Keys) (x : CpV) : Int :=
  if nmdE l kCp x.nm = 0 then (if wiB x.fr 0 ((nd : Int) - 1) && wiB x.tt 0 ((nd : Int) - 1) then
    (if ((x.sh == -12) || ((x.sh == 12) || ((x.sh == 0) && (x.fr != x.tt)))) && (wiB x.on 0 2 && !(x.th && (x.on != 0))) then 0 else 2) else 4) else nmdE l kCp x.nm
def cplL (l : Keys) (x : CpV) : Keys := nmdL l kCp x.nm
def runE {α : Type} (f : Keys → α → Int) (g : Keys → α → Keys) : List α → Keys → Int × Keys
  | [], l => (0, l)
  | x :: r, l => if f l x = 0 then runE f g r (g l x) else (f l x, g l x)
def stpsE (o : SpO) (l : Keys) (x : SpV) : Int :=
  if stpE o.n1 l x = 0 then (runE (fun _ p => prtE o.rs (o.ds[x.dv.toNat]?.getD dv0) p) (fun l _ => l) x.ps l).1 else stpE o.n1 l x
def specE (o : SpO) : Int :=
  if 6 < o.n1 ∨ 40 < o.n2 ∨ 80 < o.n3 ∨ 24 < o.n4 then 3
  else let a := runE divE divL o.ds []
    if a.1 = 0 then
      let b := runE rnkE rnkL o.rs a.2
      if b.1 = 0 then
        let c := runE (stpsE o) (stpL o.n1) o.ss b.2
        if c.1 = 0 then (runE (cplE o.n1) cplL o.cs c.2).1 else c.1
      else b.1
    else a.1
theorem nmdL_len (l : Keys) (k nm : ByteArray) : (nmdL l k nm).length ≤ l.length + 1 := by
  unfold nmdL
  split
  · exact Nat.le_refl _
  · omega
theorem stpL_len (nd : Nat) (l : Keys) (x : SpV) : (stpL nd l x).length ≤ l.length + 1 := by
  unfold stpL
  split
  · omega
  · split
    · omega
    · exact nmdL_len _ _ _
theorem runE_drop {α : Type} {f : Keys → α → Int} {g : Keys → α → Keys} {L : List α} {k : Nat} {x : α} (l : Keys) (hx : L[k]? = some x) :
    runE f g (L.drop k) l = if f l x = 0 then runE f g (L.drop (k + 1)) (g l x) else (f l x, g l x) := by
  obtain ⟨hk, rfl⟩ := List.getElem?_eq_some_iff.1 hx; rw [List.drop_eq_getElem_cons hk, runE]
end Go.Proofs.YtabkpbbjodfolaaGreatDoor
namespace Go.Proofs.YtabkpbbjodfolaaGreatDoor
set_option linter.unusedSimpArgs false
open Go.RowKit
set_option linter.unusedVariables false
theorem wi_any (a b c : Int) (w : World) : Calls Tryz.prog 138 #[.int .i64 a, .int .i64 b, .int .i64 c] w fun e w' => e = .returned (.bool (wiB a b c)) ∧ w' = w := within_any a b c w
structure CK (w : World) (g b : Nat) (o : SpO) (l : Keys) : Prop where
  blk : Blk w g 164 #[.slice o.A1 o.n1 o.c1, .slice o.A2 o.n2 o.c2, .slice o.A3 o.n3 o.c3, .slice o.A4 o.n4 o.c4, .map (some b)]
  nm : NM w b l.length l
  ne : g ≠ b
theorem CK.below {w w' : World} {g b : Nat} {o : SpO} {l : Keys} (h : CK w g b o l) (hb : Below w.heap.size w w') : CK w' g b o l :=
  ⟨h.blk.below hb h.blk.lt, h.nm.kept (hb.block b h.nm.lt), h.ne⟩
theorem CK.alloc {w : World} {g b : Nat} {o : SpO} {l : Keys} (h : CK w g b o l) (ob : Obj) : CK (w.alloc ob) g b o l := h.below ((Below.refl w.heap.size w).alloc (Nat.le_refl _) ob)
theorem named_all {w : World} {g b : Nat} {o : SpO} {l : Keys} (h : CK w g b o l) (ks nm : ByteArray) (hks : ks.size ≤ 100) (hn : l.length ≤ 1000000) (hnm : nm.size ≤ maxLen) :
    Calls Tryz.prog 137 #[.pointer (some ⟨g, 0, none⟩), .string ks, .string nm] w fun e w' => e = .returned (.int .i64 (nmdE l ks nm)) ∧ CK w' g b o (nmdL l ks nm) ∧ Mv b w w' :=
  (cnamed_any g b l.length l ks nm w ((h.blk.cell 4).trans rfl) h.nm hks hn hnm).mono fun e w' hh => by
    obtain ⟨h1, h2, h3⟩ := hh; unfold nmdE nmdL
    by_cases hb : nmB nm = true
    · by_cases hk : (keyN ks nm).data.toList ∈ l
      · obtain ⟨rfl, rfl⟩ := h2 hb hk; rw [if_pos hb, if_pos hk, if_neg (fun hh => hh.2 hk)]; exact ⟨rfl, h, Mv.refl _ _⟩
      · obtain ⟨rfl, h5, h6⟩ := h3 hb hk; rw [if_pos hb, if_neg hk, if_pos ⟨hb, hk⟩]; have hm : Mv b w w' := Mv.of_grown h6 (fun k hk => by injection hk with hk; exact hk.symm); exact ⟨rfl, ⟨h.blk.mv hm h.ne, h5, h.ne⟩, hm⟩
    · obtain ⟨rfl, rfl⟩ := h1 (by simpa using hb); rw [if_neg hb, if_neg (fun hh => hb hh.1)]; exact ⟨rfl, h, Mv.refl _ _⟩
set_option maxHeartbeats 1600000 in
set_option maxRecDepth 100000 in
theorem division_any {w : World} {g b : Nat} {o : SpO} {l : Keys} (h : CK w g b o l) (x : DvV) (hn : l.length ≤ 1000000) (hnm : x.nm.size ≤ maxLen) :
    Calls Tryz.prog 97 #[.pointer (some ⟨g, 0, none⟩), .agg #[.string x.nm, .int .i64 x.lo, .int .i64 x.hi]] w fun e w' =>
      e = .returned (.int .i64 (divE l x)) ∧ CK w' g b o (divL l x) ∧ Mv b w w' := by
  have HE : Sl (divE l x = if nmdE l kDv x.nm = 0 then (if wiB x.lo 0 127 && wiB x.hi x.lo (min 127 (x.lo + 60)) then 0 else 7) else nmdE l kDv x.nm) := ⟨rfl⟩; have HL : Sl (divL l x = nmdL l kDv x.nm) := ⟨rfl⟩; rw [HL.out]; obtain ⟨r, hr⟩ : ∃ r, divE l x = r := ⟨_, rfl⟩; rw [hr] at HE ⊢; obtain ⟨nm, lo, hi⟩ := x; simp only [] at HE HL hnm ⊢; have X0 := Blk.new w 98 #[.string nm, .int .i64 lo, .int .i64 hi]; have hbl := (Below.refl w.heap.size w).alloc (Nat.le_refl _) (.cells #[.string nm, .int .i64 lo, .int .i64 hi] 98); have hC := h.alloc (.cells #[.string nm, .int .i64 lo, .int .i64 hi] 98); have hlt := h.nm.lt; have HX : Sl _ := ⟨X0⟩; have HBL : Sl _ := ⟨hbl⟩; have HLT : Sl _ := ⟨hlt⟩; have HN : Sl _ := ⟨named_all hC kDv nm (by decide) hn hnm⟩; clear X0 hbl hC hlt h hnm hr HL; obtain ⟨z, hz⟩ : ∃ z, nmdE l kDv nm = z := ⟨_, rfl⟩; rw [hz] at HE HN; clear hz; unfold kDv at HN ⊢
  by_cases hz0 : z = 0
  · subst hz0; rw [if_pos rfl] at HE; obtain ⟨b1, hb1⟩ : ∃ b1, wiB lo 0 127 = b1 := ⟨_, rfl⟩; rw [hb1] at HE; have HB1 : Sl _ := ⟨hb1⟩; have HLO : Sl (b1 = true → 0 ≤ lo ∧ lo ≤ 127) := ⟨fun h => by rw [← hb1] at h; unfold wiB at h; simpa using h⟩; clear hb1; go_enter Tryz.func97, Tryz.ntmps97; go_wp2_with fail; refine HN.out.mono ?_; rintro e w1 ⟨rfl, hC1, hm1⟩; have HC1 : Sl _ := ⟨hC1⟩; have HM1 : Sl _ := ⟨hm1⟩; have X1 := HX.out.mv hm1 (by have := HLT.out; omega); have x1 := X1.cell 1; have x2 := X1.cell 2; simp at x1 x2; clear hC1 hm1 X1; go_wp2_with fail; refine (wi_any lo 0 127 w1).mono ?_; rintro e w2 ⟨rfl, rfl⟩; rw [HB1.out]
    cases b1 with
    | false =>
      go_wp2_with fail; go_ret; exact ⟨by rw [HE.out]; rfl, HC1.out, Mv.trans (Mv.below HBL.out) HM1.out⟩
    | true =>
      obtain ⟨h1, h2⟩ := HLO.out rfl; have HMN : Sl (min (127 : Int) (lo + 60) = min 127 (lo + 61 - 1)) := ⟨by omega⟩; obtain ⟨b2, hb2⟩ : ∃ b2, wiB hi lo (min 127 (lo + 60)) = b2 := ⟨_, rfl⟩; rw [hb2] at HE; have HB2 : Sl (∀ z, z = min (127 : Int) (lo + 60) → wiB hi lo z = b2) := ⟨fun z hz => by rw [hz]; exact hb2⟩; clear hb2; go_wp2_with fail; refine (wi_any hi lo _ _).mono ?_; rintro e w3 ⟨rfl, rfl⟩; rw [HB2.out _ (by omega)]
      cases b2 with
      | false =>
        go_wp2_with fail; go_ret; exact ⟨by rw [HE.out]; rfl, HC1.out, Mv.trans (Mv.below HBL.out) HM1.out⟩
      | true =>
        go_wp2_with fail; go_ret; exact ⟨by rw [HE.out]; rfl, HC1.out, Mv.trans (Mv.below HBL.out) HM1.out⟩
  · rw [if_neg hz0] at HE; have q0 : (z != 0) = true := (by rw [bne_iff_ne]; exact hz0); clear hz0; go_enter Tryz.func97, Tryz.ntmps97; go_wp2_with fail; refine HN.out.mono ?_; rintro e w1 ⟨rfl, hC1, hm1⟩; have HC1 : Sl _ := ⟨hC1⟩; have HM1 : Sl _ := ⟨hm1⟩; clear hC1 hm1; go_wp2_with fail; go_ret; exact ⟨by rw [HE.out]; rfl, HC1.out, Mv.trans (Mv.below HBL.out) HM1.out⟩
set_option maxHeartbeats 1600000 in
set_option maxRecDepth 100000 in
theorem rank_any {w : World} {g b : Nat} {o : SpO} {l : Keys} (h : CK w g b o l) (x : RnV) (hn : l.length ≤ 1000000) (hnm : x.nm.size ≤ maxLen) (hct : i64 x.ct) :
    Calls Tryz.prog 99 #[.pointer (some ⟨g, 0, none⟩), .agg #[.string x.nm, .int .i64 x.kd, .int .i64 x.fn, .int .i64 x.fd, .int .i64 x.lo, .int .i64 x.ct]] w fun e w' =>
      e = .returned (.int .i64 (rnkE l x)) ∧ CK w' g b o (rnkL l x) ∧ Mv b w w' := by
  have HE : Sl (rnkE l x = if nmdE l kRn x.nm = 0 then (if wiB x.kd 1 4 && decide (vF x.fn x.fd) then (if wiB x.ct 1 97 && wiB x.lo 0 (128 - x.ct) then 0 else 7) else 2) else nmdE l kRn x.nm) := ⟨rfl⟩; have HL : Sl (rnkL l x = nmdL l kRn x.nm) := ⟨rfl⟩; rw [HL.out]; obtain ⟨r, hr⟩ : ∃ r, rnkE l x = r := ⟨_, rfl⟩; rw [hr] at HE ⊢; obtain ⟨nm, kd, fn, fd, lo, ct⟩ := x; simp only [] at HE HL hnm ⊢; have X0 := Blk.new w 100 #[.string nm, .int .i64 kd, .int .i64 fn, .int .i64 fd, .int .i64 lo, .int .i64 ct]; have hbl := (Below.refl w.heap.size w).alloc (Nat.le_refl _) (.cells #[.string nm, .int .i64 kd, .int .i64 fn, .int .i64 fd, .int .i64 lo, .int .i64 ct] 100); have hC := h.alloc (.cells #[.string nm, .int .i64 kd, .int .i64 fn, .int .i64 fd, .int .i64 lo, .int .i64 ct] 100); have hlt := h.nm.lt; have HX : Sl _ := ⟨X0⟩; have HBL : Sl _ := ⟨hbl⟩; have HLT : Sl _ := ⟨hlt⟩; have HN : Sl _ := ⟨named_all hC kRn nm (by decide) hn hnm⟩; have HF : Sl _ := ⟨fun W : World => footage_any fn fd W⟩; clear X0 hbl hC hlt h hnm hr HL hct; obtain ⟨z, hz⟩ : ∃ z, nmdE l kRn nm = z := ⟨_, rfl⟩; rw [hz] at HE HN; clear hz; obtain ⟨f, hf⟩ : ∃ f, decide (vF fn fd) = f := ⟨_, rfl⟩; rw [hf] at HE HF; clear hf; unfold kRn at HN ⊢
  by_cases hz0 : z = 0
  · subst hz0; rw [if_pos rfl] at HE; obtain ⟨b1, hb1⟩ : ∃ b1, wiB kd 1 4 = b1 := ⟨_, rfl⟩; rw [hb1] at HE; have HB1 : Sl _ := ⟨hb1⟩; clear hb1; obtain ⟨b2, hb2⟩ : ∃ b2, wiB ct 1 97 = b2 := ⟨_, rfl⟩; rw [hb2] at HE; have HB2 : Sl _ := ⟨hb2⟩; have HCT : Sl (b2 = true → 1 ≤ ct ∧ ct ≤ 97) := ⟨fun h => by rw [← hb2] at h; unfold wiB at h; simpa using h⟩; clear hb2; go_enter Tryz.func99, Tryz.ntmps99; go_wp2_with fail; refine HN.out.mono ?_; rintro e w1 ⟨rfl, hC1, hm1⟩; have HC1 : Sl _ := ⟨hC1⟩; have HM1 : Sl _ := ⟨hm1⟩; have X1 : Sl (Blk w1 w.heap.size 100 #[.string nm, .int .i64 kd, .int .i64 fn, .int .i64 fd, .int .i64 lo, .int .i64 ct]) := ⟨HX.out.mv hm1 (by have := HLT.out; omega)⟩; have x1 := X1.out.cell 1; have x2 := X1.out.cell 2; have x3 := X1.out.cell 3; simp at x1 x2 x3; clear hC1 hm1; go_wp2_with fail; refine (wi_any kd 1 4 w1).mono ?_; rintro e w2 ⟨rfl, rfl⟩; rw [HB1.out]
    cases b1 with
    | false =>
      go_wp2_with fail; go_ret; exact ⟨by rw [HE.out]; rfl, HC1.out, Mv.trans (Mv.below HBL.out) HM1.out⟩
    | true =>
      go_wp2_with fail; refine (HF.out _).mono ?_; rintro e w3 ⟨rfl, hb3⟩; have HB3 : Sl _ := ⟨hb3⟩; have X3 := X1.out.below hb3 X1.out.lt; clear x1 x2 x3; have x4 := X3.cell 4; have x5 := X3.cell 5; simp at x4 x5; clear hb3 X3
      cases f with
      | false =>
        go_wp2_with fail; go_ret; exact ⟨by rw [HE.out]; rfl, HC1.out.below HB3.out, Mv.trans (Mv.trans (Mv.below HBL.out) HM1.out) (Mv.below HB3.out)⟩
      | true =>
        go_wp2_with fail; refine (wi_any ct 1 97 _).mono ?_; rintro e w4 ⟨rfl, rfl⟩; rw [HB2.out]
        cases b2 with
        | false =>
          go_wp2_with fail; go_ret; exact ⟨by rw [HE.out]; rfl, HC1.out.below HB3.out, Mv.trans (Mv.trans (Mv.below HBL.out) HM1.out) (Mv.below HB3.out)⟩
        | true =>
          obtain ⟨h3, h4⟩ := HCT.out rfl; obtain ⟨b4, hb4⟩ : ∃ b4, wiB lo 0 (128 - ct) = b4 := ⟨_, rfl⟩; rw [hb4] at HE; have HB4 : Sl (∀ z, z = 128 - ct → wiB lo 0 z = b4) := ⟨fun z hz => by rw [hz]; exact hb4⟩; clear hb4; go_wp2_with fail; refine (wi_any lo 0 _ _).mono ?_; rintro e w5 ⟨rfl, rfl⟩; rw [HB4.out _ (by omega)]
          cases b4 with
          | false =>
            go_wp2_with fail; go_ret; exact ⟨by rw [HE.out]; rfl, HC1.out.below HB3.out, Mv.trans (Mv.trans (Mv.below HBL.out) HM1.out) (Mv.below HB3.out)⟩
          | true =>
            go_wp2_with fail; go_ret; exact ⟨by rw [HE.out]; rfl, HC1.out.below HB3.out, Mv.trans (Mv.trans (Mv.below HBL.out) HM1.out) (Mv.below HB3.out)⟩
  · rw [if_neg hz0] at HE; have q0 : (z != 0) = true := (by rw [bne_iff_ne]; exact hz0); clear hz0; go_enter Tryz.func99, Tryz.ntmps99; go_wp2_with fail; refine HN.out.mono ?_; rintro e w1 ⟨rfl, hC1, hm1⟩; have HC1 : Sl _ := ⟨hC1⟩; have HM1 : Sl _ := ⟨hm1⟩; clear hC1 hm1; go_wp2_with fail; go_ret; exact ⟨by rw [HE.out]; rfl, HC1.out, Mv.trans (Mv.below HBL.out) HM1.out⟩
end Go.Proofs.YtabkpbbjodfolaaGreatDoor
namespace Go.Proofs.YtabkpbbjodfolaaGreatDoor
set_option linter.unusedSimpArgs false
open Go.RowKit
set_option linter.unusedVariables false
theorem NM.mv {w w' : World} {b n g : Nat} {l : List (List UInt8)} (h : NM w b n l) (hm : Mv g w w') (hne : b ≠ g) : NM w' b n l := h.kept (hm.block b h.lt hne)
structure Chk (w : World) (g b n : Nat) (l : List (List UInt8)) : Prop where
  cell : w.cell? ⟨g, 4, none⟩ = some (.map (some b))
  nm : NM w b n l
  lt : g < w.heap.size
  ne : g ≠ b
theorem Chk.alloc {w : World} {g b n : Nat} {l : List (List UInt8)} (h : Chk w g b n l) (o : Obj) : Chk (w.alloc o) g b n l := by
  have hb := (Below.refl w.heap.size w).alloc (Nat.le_refl _) o; refine ⟨(hb.cell (p := ⟨g, 4, none⟩) h.lt).trans h.cell, h.nm.kept (hb.block b h.nm.lt), Nat.lt_of_lt_of_le h.lt hb.size, h.ne⟩
theorem Chk.below {w w' : World} {g b n : Nat} {l : List (List UInt8)} (h : Chk w g b n l) (hb : Below w.heap.size w w') : Chk w' g b n l :=
  ⟨(hb.cell (p := ⟨g, 4, none⟩) h.lt).trans h.cell, h.nm.kept (hb.block b h.nm.lt), Nat.lt_of_lt_of_le h.lt hb.size, h.ne⟩
end Go.Proofs.YtabkpbbjodfolaaGreatDoor
namespace Go.Proofs.YtabkpbbjodfolaaGreatDoor
set_option linter.unusedSimpArgs false
open Go.RowKit
set_option linter.unusedVariables false
end Go.Proofs.YtabkpbbjodfolaaGreatDoor
namespace Go.Proofs.YtabkpbbjodfolaaGreatDoor
set_option linter.unusedSimpArgs false
open Go.RowKit
set_option linter.unusedVariables false
end Go.Proofs.YtabkpbbjodfolaaGreatDoor
namespace Go.Proofs.YtabkpbbjodfolaaGreatDoor
set_option linter.unusedSimpArgs false
open Go.RowKit
set_option linter.unusedVariables false
end Go.Proofs.YtabkpbbjodfolaaGreatDoor
