/- Memory for walks over arrays and structs: whole values out of and into blocks; what moves. Package temper: whole, times, over, folded, cents: ratios in and out. (Printed by gentemo.py.) Package temper: folded and cents of ratios as exponents. Arrays of twelve ratios in memory. (Printed by gentemr.py.) -/
import Derived.Test.YtgmpipimancnhaaGreatDoorZtxAc
import Derived.Deep.MidRow
import Derived.Deep.RegionHeld3
import Derived.Test.YtgmpipimancnhaaGreatDoorShelf
import Derived.Test.YtgmpipimancnhaaGreatDoorShelB
import Derived.Test.YtgmpipimancnhaaGreatDoorStrA
import Derived.Laws.MakeOwn
import Derived.Laws.OwnMore
import Derived.Laws.IdiomCopy
import Derived.Lib.SplitLaws
import Derived.Lib.ParseIntB
namespace Go.Proofs.YtgmpipimancnhaaGreatDoor
set_option linter.unusedSimpArgs false
open Go.RowKit
set_option linter.unusedVariables false
structure Mv (g : Nat) (w w' : World) : Prop where
  os : w'.os = w.os
  tape : w'.tape = w.tape
  output : w'.output = w.output
  size : w.heap.size ≤ w'.heap.size
  block : ∀ k, k < w.heap.size → k ≠ g → w'.heap[k]? = w.heap[k]?
theorem Mv.of_below {w w' : World} (h : Below w.heap.size w w') : Mv w.heap.size w w' := ⟨h.os, h.tape, h.output, h.size, fun k hk _ => h.block k hk⟩
theorem Mv.refl (g : Nat) (w : World) : Mv g w w := ⟨rfl, rfl, rfl, Nat.le_refl _, fun _ _ _ => rfl⟩
theorem Mv.drewN {g : Nat} {w w' : World} (h : Mv g w w') (n : Nat) : Mv g w (w'.drewN n) := ⟨h.os, h.tape, h.output, h.size, h.block⟩
theorem Blk.mv {w w' : World} {b g : Nat} {t : TypeId} {cs : Array Value} (h : Blk w b t cs) (hm : Mv g w w') (hne : b ≠ g) : Blk w' b t cs := (hm.block b h.lt hne).trans h
theorem below_mv {B g : Nat} {w0 w w' : World} (h : Below B w0 w) (hm : Mv g w w') (hg : B ≤ g) (hB : B ≤ w.heap.size) : Below B w0 w' :=
  ⟨hm.os.trans h.os, hm.tape.trans h.tape, hm.output.trans h.output, Nat.le_trans h.size hm.size, fun k hk => (hm.block k (by omega) (by omega)).trans (h.block k hk)⟩
theorem setCells_os (g : Nat) : ∀ (vs : List Value) (o : Nat) (w : World), (w.setCells g o vs).os = w.os ∧ (w.setCells g o vs).tape = w.tape ∧ (w.setCells g o vs).output = w.output ∧ (w.setCells g o vs).heap.size = w.heap.size ∧ ∀ k, k ≠ g → (w.setCells g o vs).heap[k]? = w.heap[k]?
  | [], _, w => ⟨rfl, rfl, rfl, rfl, fun _ _ => rfl⟩
  | v :: r, o, w => by
    rw [World.setCells]; obtain ⟨h1, h2, h3, h4, h5⟩ := setCells_os g r (o + 1) (w.setCell ⟨g, o, none⟩ v); refine ⟨h1.trans rfl, h2.trans rfl, h3.trans rfl, h4.trans (by simp [World.setCell]), fun k hk => (h5 k hk).trans ?_⟩; exact Below.heap_setCell w ⟨g, o, none⟩ v k hk
theorem Mv.setCells (w : World) (g o : Nat) (vs : List Value) : Mv g w (w.setCells g o vs) := by
  obtain ⟨h1, h2, h3, h4, h5⟩ := setCells_os g vs o w; exact ⟨h1, h2, h3, Nat.le_of_eq h4.symm, fun k _ hk => h5 k hk⟩
theorem setCells_size (w : World) (g o : Nat) (vs : List Value) : (w.setCells g o vs).heap.size = w.heap.size := (setCells_os g vs o w).2.2.2.1
def putA (cs : Array Value) : Nat → List Value → Array Value
  | _, [] => cs
  | o, v :: r => putA (cs.setIfInBounds o v) (o + 1) r
theorem Blk.setCells {w : World} {g : Nat} {t : TypeId} : ∀ (vs : List Value) (o : Nat) (w : World) (cs : Array Value), Blk w g t cs → Blk (w.setCells g o vs) g t (putA cs o vs)
  | [], _, _, _, h => h
  | v :: r, o, w, cs, h => by
    rw [World.setCells, putA]; exact Blk.setCells (w := w) r (o + 1) _ _ (h.set_ o v)
theorem putA_get : ∀ (vs : List Value) (cs : Array Value) (o j : Nat), o + vs.length ≤ cs.size → (putA cs o vs)[j]? = if o ≤ j ∧ j < o + vs.length then vs[j - o]? else cs[j]?
  | [], cs, o, j, _ => by
    rw [putA, if_neg (by rw [List.length_nil]; omega)]
  | v :: r, cs, o, j, h => by
    rw [List.length_cons] at h; rw [putA, putA_get r _ (o + 1) j (by simp; omega), List.length_cons]
    by_cases h1 : o + 1 ≤ j ∧ j < o + 1 + r.length
    · rw [if_pos h1, if_pos (by omega), show j - o = (j - (o + 1)) + 1 by omega, List.getElem?_cons_succ]
    · rw [if_neg h1]
      by_cases h2 : j = o
      · subst h2; rw [if_pos (by omega), Nat.sub_self, List.getElem?_cons_zero, Array.getElem?_setIfInBounds_self_of_lt (by omega)]
      · rw [if_neg (by omega), Array.getElem?_setIfInBounds_ne (by omega)]
theorem putA_all (cs vs : Array Value) (h : vs.size = cs.size) : putA cs 0 vs.toList = vs := by
  have hl : vs.toList.length = vs.size := (by simp); apply Array.ext_getElem?; intro j; rw [putA_get _ _ _ _ (by omega)]
  by_cases hj : j < vs.size
  · rw [if_pos (by omega), Nat.sub_zero, Array.getElem?_toList]
  · rw [if_neg (by omega), Array.getElem?_eq_none (by omega), Array.getElem?_eq_none (by omega)]
section
variable {P : Program} {ops : Array Oper} {rest : List Oper} {op : Oper} {a : Act} {w : World} {Q : Exit → Act → World → Prop}
theorem wpList_load_whole (hgd : op.guard = none) (ty : TypeId) (x : Operand) (ho : op.op = .load ty x)
    (g : Nat) (hx : a.eval x = .pointer (some ⟨g, 0, none⟩)) (t : TypeId) (cs : Array Value) (d : TypeDesc) (hB : Blk w g t cs)
    (hu : P.underlying ty = some d) (hd : d.isRow = true) (hi : (P.info? ty).map (·.size) = some cs.size)
    (h : wpList P ops Q rest (a.put op.dst (.agg cs)) w) : wpList P ops Q (op :: rest) a w := by
  have hr : w.rangeAt g 0 cs.toList := by
    have := World.rangeAt_of_block hB 0 cs.size; rw [Nat.zero_add, Array.extract_size] at this; exact this
  refine wpList_load_mid hgd ty x ho g 0 hx cs.toList d hr hu hd (by rw [hi]; simp) ?_; rw [Array.toArray_toList]; exact h
theorem wpList_load_part (hgd : op.guard = none) (ty : TypeId) (x : Operand) (ho : op.op = .load ty x)
    (g o : Nat) (hx : a.eval x = .pointer (some ⟨g, o, none⟩)) (t : TypeId) (cs vs : Array Value) (d : TypeDesc) (hB : Blk w g t cs) (hv : cs.extract o (o + vs.size) = vs)
    (hu : P.underlying ty = some d) (hd : d.isRow = true) (hi : (P.info? ty).map (·.size) = some vs.size)
    (h : wpList P ops Q rest (a.put op.dst (.agg vs)) w) : wpList P ops Q (op :: rest) a w := by
  have hr : w.rangeAt g o vs.toList := by
    have := World.rangeAt_of_block hB o vs.size; rw [hv] at this; exact this
  refine wpList_load_mid hgd ty x ho g o hx vs.toList d hr hu hd (by rw [hi]; simp) ?_; rw [Array.toArray_toList]; exact h
theorem Blk.there {g : Nat} {t : TypeId} {cs : Array Value} (h : Blk w g t cs) (o n : Nat) (hn : o + n ≤ cs.size) : w.there g o n := fun j hj => by
  refine ⟨?_, h.frozen _⟩; rw [h.cell, Array.getElem?_eq_getElem (by omega)]; rfl
theorem wpList_store_part (hgd : op.guard = none) (ty : TypeId) (x y : Operand) (ho : op.op = .store ty x y)
    (g o : Nat) (cells : Array Value) (hx : a.eval x = .pointer (some ⟨g, o, none⟩)) (hy : a.eval y = .agg cells)
    (t : TypeId) (cs cs' : Array Value) (hB : Blk w g t cs) (hn : o + cells.size ≤ cs.size) (hp : putA cs o cells.toList = cs')
    (hi : (P.info? ty).map (·.size) = some cells.size) (h1 : cells.all (·.oneCell') = true)
    (h : ∀ w', Mv g w w' → w'.heap.size = w.heap.size → Blk w' g t cs' → wpList P ops Q rest (a.put op.dst undef) w') : wpList P ops Q (op :: rest) a w := by
  refine wpList_store_mid hgd ty x y ho g o cells hx hy (hB.there o _ hn) hi h1 (h _ (Mv.setCells _ _ _ _) (setCells_size _ _ _ _) ?_); rw [← hp]; exact Blk.setCells (w := w) _ _ _ _ hB
theorem wpList_store_whole (hgd : op.guard = none) (ty : TypeId) (x y : Operand) (ho : op.op = .store ty x y)
    (g : Nat) (cells : Array Value) (hx : a.eval x = .pointer (some ⟨g, 0, none⟩)) (hy : a.eval y = .agg cells)
    (t : TypeId) (cs : Array Value) (hB : Blk w g t cs) (hn : cells.size = cs.size)
    (hi : (P.info? ty).map (·.size) = some cells.size) (h1 : cells.all (·.oneCell') = true)
    (h : ∀ w', Mv g w w' → w'.heap.size = w.heap.size → Blk w' g t cells → wpList P ops Q rest (a.put op.dst undef) w') : wpList P ops Q (op :: rest) a w :=
  wpList_store_part hgd ty x y ho g 0 cells hx hy t cs cells hB (by omega) (putA_all cs cells hn) hi h1 h
theorem wpList_alloc_new (k : Tmp) (hdst : op.dst = some k) (hgd : op.guard = none) (ty : TypeId) (ho : op.op = .alloc ty) (cells : Array Value)
    (hz : ∀ w, (Instr.alloc ty true (.tuple #[])).run P w = .ok (.pointer (some ⟨w.heap.size, 0, none⟩)) (w.alloc (.cells cells ty)))
    (h : ∀ w' g, g = w.heap.size → Mv w.heap.size w w' → w'.heap.size = g + 1 → Blk w' g ty cells → wpList P ops Q rest (a.put op.dst (.pointer (some ⟨g, 0, none⟩))) w') : wpList P ops Q (op :: rest) a w := by
  refine wpList_plain hgd fun K hK => ?_
  have hrun : (execOp a.eval op).run P w = .ok (.value (.pointer (some ⟨w.heap.size, 0, none⟩))) (w.alloc (.cells cells ty)) := by
    unfold execOp; simp only [ho, Sem.run_bind, hz, Result.andThen_ok, Sem.run_pure]
  unfold Oper.wp; rw [hrun, Oper.upon_value]; exact hK _ _ (h _ _ rfl (Mv.of_below ((Below.refl _ _).alloc (Nat.le_refl _) _)) (by simp) (Blk.new w ty cells))
theorem wpList_box_new (k : Tmp) (hdst : op.dst = some k) (hgd : op.guard = none) (ty : TypeId) (x : Operand) (ho : op.op = .box ty x) (cells : Array Value) (hx : a.eval x = .agg cells)
    (hz : ∀ w, (Instr.box ty (.agg cells)).run P w = .ok (.pointer (some ⟨w.heap.size, 0, none⟩)) (w.alloc (.cells cells ty)))
    (h : ∀ w' g, g = w.heap.size → Mv w.heap.size w w' → w'.heap.size = g + 1 → Blk w' g ty cells → wpList P ops Q rest (a.put op.dst (.pointer (some ⟨g, 0, none⟩))) w') : wpList P ops Q (op :: rest) a w := by
  refine wpList_plain hgd fun K hK => ?_
  have hrun : (execOp a.eval op).run P w = .ok (.value (.pointer (some ⟨w.heap.size, 0, none⟩))) (w.alloc (.cells cells ty)) := by
    unfold execOp; simp only [ho, hx, Sem.run_bind, hz, Result.andThen_ok, Sem.run_pure]
  unfold Oper.wp; rw [hrun, Oper.upon_value]; exact hK _ _ (h _ _ rfl (Mv.of_below ((Below.refl _ _).alloc (Nat.le_refl _) _)) (by simp) (Blk.new w ty cells))
end
theorem Mv.trans {g : Nat} {a b c : World} (h : Mv g a b) (k : Mv g b c) : Mv g a c :=
  ⟨k.os.trans h.os, k.tape.trans h.tape, k.output.trans h.output, Nat.le_trans h.size k.size, fun i hi hne => (k.block i (by have := h.size; omega) hne).trans (h.block i hi hne)⟩
theorem Mv.below {g : Nat} {a b : World} (h : Below a.heap.size a b) : Mv g a b := ⟨h.os, h.tape, h.output, h.size, fun k hk _ => h.block k hk⟩
theorem Mv.drew (g : Nat) (w : World) : Mv g w w.drew := ⟨rfl, rfl, rfl, Nat.le_refl _, fun _ _ _ => rfl⟩
section
variable {P : Program} {ops : Array Oper} {Q : Exit → Act → World → Prop} {md : Region.Mode} {S : World → Prop}
theorem wpAnyH_one (i : Nat) {oi : Oper} {fuel : Nat} {listed : Array Bool} {a : Act} {w : World} (hi0 : ops.toList[i]? = some oi) (hr : Region.ready md ops listed = [i]) (hg : oi.guard = none)
    (h : ∀ K' : Act → World → Prop, Shut (∀ a w, S w → (S w → wpAnyH P md ops Q S fuel (listed.setIfInBounds i true) a w) → K' a w) → Oper.wp P oi a w K' Q) : wpAnyH P md ops Q S (fuel + 1) listed a w :=
  have hi : ops[i]? = some oi := (by rw [← Array.getElem?_toList]; exact hi0)
  wpAnyH_ready hr (by simp) (AllReadyH.cons hi (fun K' hK => by
    have hw : Region.wanted oi (yielded ops a.tmps) = true := (by simp [Region.wanted, hg]); rw [if_pos hw]
    exact h K' hK) AllReadyH.nil)
theorem wpAnyH_pure (i : Nat) {oi : Oper} {v : Value} {fuel : Nat} {listed : Array Bool} {a : Act} {w : World} (hi0 : ops.toList[i]? = some oi)
    (hs : Region.noSelect ops = true) (hf : Region.free md ops listed i = true) (hr : (Region.ready md ops listed).contains i = true)
    (hQ : ∀ c a w, Q (.panic c) (a.put oi.dst v) w → Q (.panic c) a w) (hg : oi.guard = none) (hy : ∀ w, (execOp a.eval oi).run P w = .ok (.value v) w) (hS : S w)
    (h : wpAnyH P md ops Q S fuel (listed.setIfInBounds i true) (a.put oi.dst v) w) : wpAnyH P md ops Q S (fuel + 1) listed a w :=
  have hi : ops[i]? = some oi := (by rw [← Array.getElem?_toList]; exact hi0)
  wpAnyH_take hi hs hf hr hQ (.inl ⟨by simp [Region.wanted, hg], fun w _ => hy w⟩) hS h
theorem wpAnyH_load (i : Nat) {oi : Oper} {fuel : Nat} {listed : Array Bool} {a : Act} {w : World} (ty : TypeId) (x : Operand) (hi0 : ops.toList[i]? = some oi) (ho : oi.op = .load ty x) (hg : oi.guard = none)
    (g o : Nat) (hx : a.eval x = .pointer (some ⟨g, o, none⟩)) (vs : Array Value) (d : TypeDesc) (hR : ∀ w, S w → w.rangeAt g o vs.toList) (hu : P.underlying ty = some d) (hd : d.isRow = true) (hz : (P.info? ty).map (·.size) = some vs.size)
    (hs : Region.noSelect ops = true) (hf : Region.free md ops listed i = true) (hr : (Region.ready md ops listed).contains i = true)
    (hQ : ∀ c a w, Q (.panic c) (a.put oi.dst (.agg vs)) w → Q (.panic c) a w) (hS : S w)
    (h : wpAnyH P md ops Q S fuel (listed.setIfInBounds i true) (a.put oi.dst (.agg vs)) w) : wpAnyH P md ops Q S (fuel + 1) listed a w := by
  have hi : ops[i]? = some oi := (by rw [← Array.getElem?_toList]; exact hi0); have hy := yieldsIf_load_mid (P := P) (ops := ops) (S := S) (op := oi) (a := a) (by simp [Region.wanted, hg]) ty x ho g o hx vs.toList d hR hu hd (by rw [hz]; simp); rw [Array.toArray_toList] at hy; exact wpAnyH_take hi hs hf hr hQ hy hS h
theorem wpAnyH_cell (i : Nat) {oi : Oper} {fuel : Nat} {listed : Array Bool} {a : Act} {w : World} {v : Value} (hi0 : ops.toList[i]? = some oi) (hg : oi.guard = none)
    (hy : ∀ w, S w → (execOp a.eval oi).run P w = .ok (.value v) w)
    (hs : Region.noSelect ops = true) (hf : Region.free md ops listed i = true) (hr : (Region.ready md ops listed).contains i = true)
    (hQ : ∀ c a w, Q (.panic c) (a.put oi.dst v) w → Q (.panic c) a w) (hS : S w)
    (h : wpAnyH P md ops Q S fuel (listed.setIfInBounds i true) (a.put oi.dst v) w) : wpAnyH P md ops Q S (fuel + 1) listed a w :=
  have hi : ops[i]? = some oi := (by rw [← Array.getElem?_toList]; exact hi0)
  wpAnyH_take hi hs hf hr hQ (.inl ⟨by simp [Region.wanted, hg], hy⟩) hS h
end
section
variable {P : Program} {op : Oper} {a : Act} {w : World} {K : Act → World → Prop} {Q : Exit → Act → World → Prop}
theorem wp_store_part (ty : TypeId) (x y : Operand) (ho : op.op = .store ty x y)
    (g o : Nat) (cells : Array Value) (hx : a.eval x = .pointer (some ⟨g, o, none⟩)) (hy : a.eval y = .agg cells)
    (t : TypeId) (cs cs' : Array Value) (hB : Blk w g t cs) (hn : o + cells.size ≤ cs.size) (hp : putA cs o cells.toList = cs')
    (hi : (P.info? ty).map (·.size) = some cells.size) (h1 : cells.all (·.oneCell') = true)
    (h : ∀ w', Mv g w w' → w'.heap.size = w.heap.size → Blk w' g t cs' → K (a.put op.dst undef) w') : op.wp P a w K Q := by
  refine wp_store_mid ty x y ho g o cells hx hy (hB.there o _ hn) hi h1 (h _ (Mv.setCells _ _ _ _) (setCells_size _ _ _ _) ?_); rw [← hp]; exact Blk.setCells (w := w) _ _ _ _ hB
theorem wp_load_all (ty : TypeId) (x : Operand) (ho : op.op = .load ty x) (g : Nat) (hx : a.eval x = .pointer (some ⟨g, 0, none⟩)) (t : TypeId) (cs : Array Value) (d : TypeDesc) (hB : Blk w g t cs)
    (hu : P.underlying ty = some d) (hd : d.isRow = true) (hi : (P.info? ty).map (·.size) = some cs.size) (h : K (a.put op.dst (.agg cs)) w) : op.wp P a w K Q := by
  have hr : w.rangeAt g 0 cs.toList := by
    have := World.rangeAt_of_block hB 0 cs.size; rw [Nat.zero_add, Array.extract_size] at this; exact this
  refine wp_load_mid ty x ho g 0 hx cs.toList d hr hu hd (by rw [hi]; simp) ?_; rw [Array.toArray_toList]; exact h
end
theorem wpList_store_int {P : Program} {ops : Array Oper} {rest : List Oper} {op : Oper} {a : Act} {w : World} {Q : Exit → Act → World → Prop} (hgd : op.guard = none) (ty : TypeId) (x y : Operand) (ho : op.op = .store ty x y)
    (g o : Nat) (k : IntKind) (z : Int) (hx : a.eval x = .pointer (some ⟨g, o, none⟩)) (hy : a.eval y = .int k z)
    (t : TypeId) (cs cs' : Array Value) (hB : Blk w g t cs) (hn : o < cs.size) (hp : cs.setIfInBounds o (.int k z) = cs')
    (hi : (P.info? ty).map (·.size) = some 1)
    (h : ∀ w', Mv g w w' → w'.heap.size = w.heap.size → Blk w' g t cs' → wpList P ops Q rest (a.put op.dst undef) w') : wpList P ops Q (op :: rest) a w := by
  have ht := hB.there o 1 (by omega)
  have hrun : (storeVar ty ⟨g, o, none⟩ (.int k z)).run P w = .ok () (w.setCells g o [.int k z]) := by
    have := run_storeCells_cells (P := P) g o [.int k z] 0 w (fun j hj => by simpa using (ht j (by simpa using hj)).1) (fun j hj => by simpa using (ht j (by simpa using hj)).2)
      (fun v hv => by simp at hv; subst hv; rfl)
    cases hq : P.info? ty with
    | none => simp [hq] at hi
    | some i =>
      have hs : i.size = 1 := (by simpa [hq] using hi); simp only [Nat.add_zero] at this; simp [storeVar, sizeOf, typeInfo, hq, Value.cells, hs, this]
  refine wpList_plain hgd fun _ hK => ?_
  unfold Oper.wp execOp; simp only [ho, hx, hy, Instr.storeAt, Instr.sureAddr, Sem.run_bind, Sem.run_pure, Result.andThen_ok, hrun]; refine hK _ _ (h _ (Mv.setCells _ _ _ _) (setCells_size _ _ _ _) ?_); rw [← hp]; exact Blk.setCells (w := w) [.int k z] o _ _ hB
theorem own_mv {w w' : World} {g base size n : Nat} {e : TypeId} {v : Value} {xs : List Value} (h : w.ownsRow base e size v n xs) (hm : Mv g w w') (hne : ∀ k, v.ownBlock = some k → k ≠ g) : w'.ownsRow base e size v n xs := by
  refine ⟨h.1, ?_⟩; rcases h.2 with h0 | ⟨b, cap, cur, e1, hb, hh, h1⟩
  · exact .inl h0
  · subst e1; exact .inr ⟨b, cap, cur, rfl, hb, (hm.block b (Blk.lt (t := e) (cs := cur) hh) (hne b rfl)).trans hh, h1⟩
theorem Sl.v {g : Nat} {w0 w w' : World} (h : Sl (Below w0.heap.size w0 w)) (hm : Mv g w w') (hg : w0.heap.size ≤ g) : Sl (Below w0.heap.size w0 w') := ⟨below_mv h.out hm hg h.out.size⟩
theorem Sl.w {b g : Nat} {t : TypeId} {cs : Array Value} {w w' : World} (h : Sl (Blk w b t cs)) (hm : Mv g w w') (hne : b ≠ g) : Sl (Blk w' b t cs) := ⟨h.out.mv hm hne⟩
theorem Sl.x {b : Nat} {t : TypeId} {cs : Array Value} {w w' : World} (h : Sl (Blk w b t cs)) (hb : Below w.heap.size w w') : Sl (Blk w' b t cs) := ⟨h.out.below hb h.out.lt⟩
theorem Sl.y {w0 w w' : World} (h : Sl (Below w0.heap.size w0 w)) (hb : Below w.heap.size w w') : Sl (Below w0.heap.size w0 w') := ⟨h.out.trans (hb.mono h.out.size)⟩
theorem sS0 {α : Type} (l : List α) (i : Nat) (a : α) : l.toArray.setIfInBounds i a = (l.set i a).toArray := List.setIfInBounds_toArray ..
theorem sS1 {α : Type} (a b : α) (l : List α) : (a :: l).set 0 b = b :: l := rfl
theorem sS2 {α : Type} (a b : α) (l : List α) (n : Nat) : (a :: l).set (n + 1) b = a :: l.set n b := rfl
theorem alloc_ratio (w : World) : (Instr.alloc 69 true (.tuple #[])).run Tryz.prog w = .ok (.pointer (some ⟨w.heap.size, 0, none⟩)) (w.alloc (.cells RVzero.cells 69)) := by kernel_rfl
theorem size_ratio : (Tryz.prog.info? 69).map (·.size) = some 7 := by kernel_rfl
theorem RV.cells_size (r : RV) : r.cells.size = 7 := rfl
theorem RV.cells_one (r : RV) : r.cells.all (·.oneCell') = true := by unfold RV.cells; simp [Value.oneCell']
end Go.Proofs.YtgmpipimancnhaaGreatDoor
namespace Go.Proofs.YtgmpipimancnhaaGreatDoor
set_option linter.unusedSimpArgs false
open Go.RowKit
set_option linter.unusedVariables false
attribute [-simp] Tryz.isAgg69
theorem box_ratio (r : RV) (w : World) : (Instr.box 69 (.agg r.cells)).run Tryz.prog w = .ok (.pointer (some ⟨w.heap.size, 0, none⟩)) (w.alloc (.cells r.cells 69)) := by kernel_rfl
set_option maxHeartbeats 1600000 in
set_option maxRecDepth 100000 in
theorem whole_any (a b : Int) (r : RV) (w : World) (hT : PrT w) (hr : ofS a b = (r, 0)) : Calls Tryz.prog 58 #[.int .i64 a, .int .i64 b] w fun e w' => e = .returned (.agg r.cells) ∧ Below w.heap.size w w' := by
  have HB : Sl (Below w.heap.size w w) := ⟨Below.refl _ _⟩
  have H : Sl (∀ W : World, PrT W → Calls Tryz.prog 83 #[.int .i64 a, .int .i64 b] W fun e w' => e = .returned (.tuple #[.agg r.cells, .int .i64 0]) ∧ Below W.heap.size W w') := ⟨fun W h => by
    have := ROf_any a b W h; rw [hr] at this
    exact this⟩
  have HT : Sl _ := ⟨hT⟩; clear hr hT; go_enter Tryz.func58, Tryz.ntmps58
  go_wp2_with ((with_reducible show wpList _ _ _ _ _ _); first
    | (refine wpList_alloc_new 4 rfl rfl 69 rfl RVzero.cells alloc_ratio ?_; rintro w1 gA zg zm zs zb; have ORD : Sl (w.heap.size ≤ gA) := ⟨by have := HB.out.size; omega⟩; replace HB := HB.v zm (by have := HB.out.size; have := ORD.out; omega); have XA : Sl (Blk w1 gA 69 RVzero.cells) := ⟨zb⟩; clear zg zm zs zb))
  refine (H.out _ (HT.out.below HB.out)).mono ?_; rintro e w2 ⟨rfl, hb⟩; replace HB := HB.y hb; replace XA := XA.x hb; clear hb
  go_wp2_with ((with_reducible show wpList _ _ _ _ _ _); first
    | (refine wpList_alloc_new 5 rfl rfl 69 rfl RVzero.cells alloc_ratio ?_; rintro w3 gB zg zm zs zb; replace ORD : Sl (w.heap.size ≤ gA ∧ gA < gB) := ⟨by have := HB.out.size; have := ORD.out; have := XA.out.lt; omega⟩; replace HB := HB.v zm (by have := HB.out.size; have := ORD.out; omega); replace XA := XA.w zm (by have := XA.out.lt; have := ORD.out; omega); have XB : Sl (Blk w3 gB 69 RVzero.cells) := ⟨zb⟩; clear zg zm zs zb)
    | (refine wpList_store_whole rfl 69 (.tmp 5) (.tmp 11) rfl gB r.cells rfl rfl 69 RVzero.cells XB.out rfl size_ratio (RV.cells_one _) ?_; rintro w4 zm zs zb; replace HB := HB.v zm (by have := ORD.out; omega); replace XA := XA.w zm (by have := XA.out.lt; have := ORD.out; omega); replace XB : Sl (Blk w4 gB 69 r.cells) := ⟨zb⟩; clear zm zs zb)
    | (refine wpList_load_whole rfl 69 (.tmp 5) rfl gB rfl 69 r.cells _ XB.out Tryz.underlying69 rfl size_ratio ?_)
    | (refine wpList_store_whole rfl 69 (.tmp 4) (.tmp 13) rfl gA r.cells rfl rfl 69 RVzero.cells XA.out rfl size_ratio (RV.cells_one _) ?_; rintro w5 zm zs zb; replace HB := HB.v zm (by have := ORD.out; omega); replace XB := XB.w zm (by have := XB.out.lt; have := ORD.out; omega); replace XA : Sl (Blk w5 gA 69 r.cells) := ⟨zb⟩; clear zm zs zb))
  refine bodyPost_ret (results_cell_row rfl _ _ gA _ _ _ _ rfl XA.out Tryz.underlying69 rfl size_ratio) rfl ?_; exact ⟨rfl, HB.out⟩
set_option maxHeartbeats 1600000 in
set_option maxRecDepth 100000 in
theorem ttimes_any (a b r : RV) (w : World) (hr : joinS a b (1) = (r, 0)) : Calls Tryz.prog 61 #[.agg a.cells, .agg b.cells] w fun e w' => e = .returned (.agg r.cells) ∧ Below w.heap.size w w' := by
  have HB : Sl (Below w.heap.size w w) := ⟨Below.refl _ _⟩
  have H : Sl (∀ W : World, Calls Tryz.prog 86 #[.agg a.cells, .agg b.cells] W fun e w' => e = .returned (.tuple #[.agg r.cells, .int .i64 0]) ∧ Below W.heap.size W w') := ⟨fun W => by
    have := vMul_any a b W; rw [hr] at this
    exact this⟩
  clear hr; go_enter Tryz.func61, Tryz.ntmps61
  go_wp2_with ((with_reducible show wpList _ _ _ _ _ _); first
    | (refine wpList_box_new 2 rfl rfl 69 (.tmp 0) rfl a.cells rfl (box_ratio a) ?_; rintro w1 gP zg zm zs zb; have ORD : Sl (w.heap.size ≤ gP) := ⟨by have := HB.out.size; omega⟩; replace HB := HB.v zm (by have := HB.out.size; have := ORD.out; omega); have XP : Sl (Blk w1 gP 69 a.cells) := ⟨zb⟩; clear zg zm zs zb)
    | (refine wpList_box_new 3 rfl rfl 69 (.tmp 1) rfl b.cells rfl (box_ratio b) ?_; rintro w2 gQ zg zm zs zb; replace ORD : Sl (w.heap.size ≤ gP ∧ gP < gQ) := ⟨by have := HB.out.size; have := ORD.out; have := XP.out.lt; omega⟩; replace HB := HB.v zm (by have := HB.out.size; have := ORD.out; omega); replace XP := XP.w zm (by have := XP.out.lt; have := ORD.out; omega); have XQ : Sl (Blk w2 gQ 69 b.cells) := ⟨zb⟩; clear zg zm zs zb)
    | (refine wpList_alloc_new 4 rfl rfl 69 rfl RVzero.cells alloc_ratio ?_; rintro w3 gA zg zm zs zb; replace ORD : Sl (w.heap.size ≤ gP ∧ gP < gQ ∧ gQ < gA) := ⟨by have := HB.out.size; have := ORD.out; have := XP.out.lt; have := XQ.out.lt; omega⟩; replace HB := HB.v zm (by have := HB.out.size; have := ORD.out; omega); replace XP := XP.w zm (by have := XP.out.lt; have := ORD.out; omega); replace XQ := XQ.w zm (by have := XQ.out.lt; have := ORD.out; omega); have XA : Sl (Blk w3 gA 69 RVzero.cells) := ⟨zb⟩; clear zg zm zs zb)
    | (refine wpList_load_whole rfl 69 (.tmp 2) rfl gP rfl 69 a.cells _ XP.out Tryz.underlying69 rfl size_ratio ?_)
    | (refine wpList_load_whole rfl 69 (.tmp 3) rfl gQ rfl 69 b.cells _ XQ.out Tryz.underlying69 rfl size_ratio ?_))
  refine (H.out _).mono ?_; rintro e w4 ⟨rfl, hb⟩; replace HB := HB.y hb; replace XP := XP.x hb; replace XQ := XQ.x hb; replace XA := XA.x hb; clear hb
  go_wp2_with ((with_reducible show wpList _ _ _ _ _ _); first
    | (refine wpList_alloc_new 5 rfl rfl 69 rfl RVzero.cells alloc_ratio ?_; rintro w5 gB zg zm zs zb; replace ORD : Sl (w.heap.size ≤ gP ∧ gP < gQ ∧ gQ < gA ∧ gA < gB) := ⟨by have := HB.out.size; have := ORD.out; have := XP.out.lt; have := XQ.out.lt; have := XA.out.lt; omega⟩; replace HB := HB.v zm (by have := HB.out.size; have := ORD.out; omega); replace XP := XP.w zm (by have := XP.out.lt; have := ORD.out; omega); replace XQ := XQ.w zm (by have := XQ.out.lt; have := ORD.out; omega); replace XA := XA.w zm (by have := XA.out.lt; have := ORD.out; omega); have XB : Sl (Blk w5 gB 69 RVzero.cells) := ⟨zb⟩; clear zg zm zs zb)
    | (refine wpList_store_whole rfl 69 (.tmp 5) (.tmp 11) rfl gB r.cells rfl rfl 69 RVzero.cells XB.out rfl size_ratio (RV.cells_one _) ?_; rintro w6 zm zs zb; replace HB := HB.v zm (by have := ORD.out; omega); replace XP := XP.w zm (by have := XP.out.lt; have := ORD.out; omega); replace XQ := XQ.w zm (by have := XQ.out.lt; have := ORD.out; omega); replace XA := XA.w zm (by have := XA.out.lt; have := ORD.out; omega); replace XB : Sl (Blk w6 gB 69 r.cells) := ⟨zb⟩; clear zm zs zb)
    | (refine wpList_load_whole rfl 69 (.tmp 5) rfl gB rfl 69 r.cells _ XB.out Tryz.underlying69 rfl size_ratio ?_)
    | (refine wpList_store_whole rfl 69 (.tmp 4) (.tmp 13) rfl gA r.cells rfl rfl 69 RVzero.cells XA.out rfl size_ratio (RV.cells_one _) ?_; rintro w7 zm zs zb; replace HB := HB.v zm (by have := ORD.out; omega); replace XP := XP.w zm (by have := XP.out.lt; have := ORD.out; omega); replace XQ := XQ.w zm (by have := XQ.out.lt; have := ORD.out; omega); replace XB := XB.w zm (by have := XB.out.lt; have := ORD.out; omega); replace XA : Sl (Blk w7 gA 69 r.cells) := ⟨zb⟩; clear zm zs zb))
  refine bodyPost_ret (results_cell_row rfl _ _ gA _ _ _ _ rfl XA.out Tryz.underlying69 rfl size_ratio) rfl ?_; exact ⟨rfl, HB.out⟩
set_option maxHeartbeats 1600000 in
set_option maxRecDepth 100000 in
theorem tover_any (a b r : RV) (w : World) (hr : joinS a b (-1) = (r, 0)) : Calls Tryz.prog 64 #[.agg a.cells, .agg b.cells] w fun e w' => e = .returned (.agg r.cells) ∧ Below w.heap.size w w' := by
  have HB : Sl (Below w.heap.size w w) := ⟨Below.refl _ _⟩
  have H : Sl (∀ W : World, Calls Tryz.prog 90 #[.agg a.cells, .agg b.cells] W fun e w' => e = .returned (.tuple #[.agg r.cells, .int .i64 0]) ∧ Below W.heap.size W w') := ⟨fun W => by
    have := vDiv_any a b W; rw [hr] at this
    exact this⟩
  clear hr; go_enter Tryz.func64, Tryz.ntmps64
  go_wp2_with ((with_reducible show wpList _ _ _ _ _ _); first
    | (refine wpList_box_new 2 rfl rfl 69 (.tmp 0) rfl a.cells rfl (box_ratio a) ?_; rintro w1 gP zg zm zs zb; have ORD : Sl (w.heap.size ≤ gP) := ⟨by have := HB.out.size; omega⟩; replace HB := HB.v zm (by have := HB.out.size; have := ORD.out; omega); have XP : Sl (Blk w1 gP 69 a.cells) := ⟨zb⟩; clear zg zm zs zb)
    | (refine wpList_box_new 3 rfl rfl 69 (.tmp 1) rfl b.cells rfl (box_ratio b) ?_; rintro w2 gQ zg zm zs zb; replace ORD : Sl (w.heap.size ≤ gP ∧ gP < gQ) := ⟨by have := HB.out.size; have := ORD.out; have := XP.out.lt; omega⟩; replace HB := HB.v zm (by have := HB.out.size; have := ORD.out; omega); replace XP := XP.w zm (by have := XP.out.lt; have := ORD.out; omega); have XQ : Sl (Blk w2 gQ 69 b.cells) := ⟨zb⟩; clear zg zm zs zb)
    | (refine wpList_alloc_new 4 rfl rfl 69 rfl RVzero.cells alloc_ratio ?_; rintro w3 gA zg zm zs zb; replace ORD : Sl (w.heap.size ≤ gP ∧ gP < gQ ∧ gQ < gA) := ⟨by have := HB.out.size; have := ORD.out; have := XP.out.lt; have := XQ.out.lt; omega⟩; replace HB := HB.v zm (by have := HB.out.size; have := ORD.out; omega); replace XP := XP.w zm (by have := XP.out.lt; have := ORD.out; omega); replace XQ := XQ.w zm (by have := XQ.out.lt; have := ORD.out; omega); have XA : Sl (Blk w3 gA 69 RVzero.cells) := ⟨zb⟩; clear zg zm zs zb)
    | (refine wpList_load_whole rfl 69 (.tmp 2) rfl gP rfl 69 a.cells _ XP.out Tryz.underlying69 rfl size_ratio ?_)
    | (refine wpList_load_whole rfl 69 (.tmp 3) rfl gQ rfl 69 b.cells _ XQ.out Tryz.underlying69 rfl size_ratio ?_))
  refine (H.out _).mono ?_; rintro e w4 ⟨rfl, hb⟩; replace HB := HB.y hb; replace XP := XP.x hb; replace XQ := XQ.x hb; replace XA := XA.x hb; clear hb
  go_wp2_with ((with_reducible show wpList _ _ _ _ _ _); first
    | (refine wpList_alloc_new 5 rfl rfl 69 rfl RVzero.cells alloc_ratio ?_; rintro w5 gB zg zm zs zb; replace ORD : Sl (w.heap.size ≤ gP ∧ gP < gQ ∧ gQ < gA ∧ gA < gB) := ⟨by have := HB.out.size; have := ORD.out; have := XP.out.lt; have := XQ.out.lt; have := XA.out.lt; omega⟩; replace HB := HB.v zm (by have := HB.out.size; have := ORD.out; omega); replace XP := XP.w zm (by have := XP.out.lt; have := ORD.out; omega); replace XQ := XQ.w zm (by have := XQ.out.lt; have := ORD.out; omega); replace XA := XA.w zm (by have := XA.out.lt; have := ORD.out; omega); have XB : Sl (Blk w5 gB 69 RVzero.cells) := ⟨zb⟩; clear zg zm zs zb)
    | (refine wpList_store_whole rfl 69 (.tmp 5) (.tmp 11) rfl gB r.cells rfl rfl 69 RVzero.cells XB.out rfl size_ratio (RV.cells_one _) ?_; rintro w6 zm zs zb; replace HB := HB.v zm (by have := ORD.out; omega); replace XP := XP.w zm (by have := XP.out.lt; have := ORD.out; omega); replace XQ := XQ.w zm (by have := XQ.out.lt; have := ORD.out; omega); replace XA := XA.w zm (by have := XA.out.lt; have := ORD.out; omega); replace XB : Sl (Blk w6 gB 69 r.cells) := ⟨zb⟩; clear zm zs zb)
    | (refine wpList_load_whole rfl 69 (.tmp 5) rfl gB rfl 69 r.cells _ XB.out Tryz.underlying69 rfl size_ratio ?_)
    | (refine wpList_store_whole rfl 69 (.tmp 4) (.tmp 13) rfl gA r.cells rfl rfl 69 RVzero.cells XA.out rfl size_ratio (RV.cells_one _) ?_; rintro w7 zm zs zb; replace HB := HB.v zm (by have := ORD.out; omega); replace XP := XP.w zm (by have := XP.out.lt; have := ORD.out; omega); replace XQ := XQ.w zm (by have := XQ.out.lt; have := ORD.out; omega); replace XB := XB.w zm (by have := XB.out.lt; have := ORD.out; omega); replace XA : Sl (Blk w7 gA 69 r.cells) := ⟨zb⟩; clear zm zs zb))
  refine bodyPost_ret (results_cell_row rfl _ _ gA _ _ _ _ rfl XA.out Tryz.underlying69 rfl size_ratio) rfl ?_; exact ⟨rfl, HB.out⟩
set_option maxHeartbeats 1600000 in
set_option maxRecDepth 100000 in
theorem tfolded_any (a r : RV) (k : Int) (w : World) (H : Sl (∀ W : World, PrT W → Calls Tryz.prog 85 #[.agg a.cells] W fun e w' => e = .returned (.tuple #[.agg r.cells, .int .i64 k, .int .i64 0]) ∧ Below W.heap.size W w')) (hT : PrT w) : Calls Tryz.prog 60 #[.agg a.cells] w fun e w' => e = .returned (.agg r.cells) ∧ Below w.heap.size w w' := by
  have HB : Sl (Below w.heap.size w w) := ⟨Below.refl _ _⟩; have HT : Sl _ := ⟨hT⟩; clear hT; go_enter Tryz.func60, Tryz.ntmps60
  go_wp2_with ((with_reducible show wpList _ _ _ _ _ _); first
    | (refine wpList_box_new 1 rfl rfl 69 (.tmp 0) rfl a.cells rfl (box_ratio a) ?_; rintro w1 gP zg zm zs zb; have ORD : Sl (w.heap.size ≤ gP) := ⟨by have := HB.out.size; omega⟩; replace HB := HB.v zm (by have := HB.out.size; have := ORD.out; omega); have XP : Sl (Blk w1 gP 69 a.cells) := ⟨zb⟩; clear zg zm zs zb)
    | (refine wpList_alloc_new 2 rfl rfl 69 rfl RVzero.cells alloc_ratio ?_; rintro w2 gA zg zm zs zb; replace ORD : Sl (w.heap.size ≤ gP ∧ gP < gA) := ⟨by have := HB.out.size; have := ORD.out; have := XP.out.lt; omega⟩; replace HB := HB.v zm (by have := HB.out.size; have := ORD.out; omega); replace XP := XP.w zm (by have := XP.out.lt; have := ORD.out; omega); have XA : Sl (Blk w2 gA 69 RVzero.cells) := ⟨zb⟩; clear zg zm zs zb)
    | (refine wpList_load_whole rfl 69 (.tmp 1) rfl gP rfl 69 a.cells _ XP.out Tryz.underlying69 rfl size_ratio ?_))
  refine (H.out _ (HT.out.below HB.out)).mono ?_; rintro e w3 ⟨rfl, hb⟩; replace HB := HB.y hb; replace XP := XP.x hb; replace XA := XA.x hb; clear hb
  go_wp2_with ((with_reducible show wpList _ _ _ _ _ _); first
    | (refine wpList_alloc_new 3 rfl rfl 69 rfl RVzero.cells alloc_ratio ?_; rintro w4 gB zg zm zs zb; replace ORD : Sl (w.heap.size ≤ gP ∧ gP < gA ∧ gA < gB) := ⟨by have := HB.out.size; have := ORD.out; have := XP.out.lt; have := XA.out.lt; omega⟩; replace HB := HB.v zm (by have := HB.out.size; have := ORD.out; omega); replace XP := XP.w zm (by have := XP.out.lt; have := ORD.out; omega); replace XA := XA.w zm (by have := XA.out.lt; have := ORD.out; omega); have XB : Sl (Blk w4 gB 69 RVzero.cells) := ⟨zb⟩; clear zg zm zs zb)
    | (refine wpList_store_whole rfl 69 (.tmp 3) (.tmp 9) rfl gB r.cells rfl rfl 69 RVzero.cells XB.out rfl size_ratio (RV.cells_one _) ?_; rintro w5 zm zs zb; replace HB := HB.v zm (by have := ORD.out; omega); replace XP := XP.w zm (by have := XP.out.lt; have := ORD.out; omega); replace XA := XA.w zm (by have := XA.out.lt; have := ORD.out; omega); replace XB : Sl (Blk w5 gB 69 r.cells) := ⟨zb⟩; clear zm zs zb)
    | (refine wpList_load_whole rfl 69 (.tmp 3) rfl gB rfl 69 r.cells _ XB.out Tryz.underlying69 rfl size_ratio ?_)
    | (refine wpList_store_whole rfl 69 (.tmp 2) (.tmp 12) rfl gA r.cells rfl rfl 69 RVzero.cells XA.out rfl size_ratio (RV.cells_one _) ?_; rintro w6 zm zs zb; replace HB := HB.v zm (by have := ORD.out; omega); replace XP := XP.w zm (by have := XP.out.lt; have := ORD.out; omega); replace XB := XB.w zm (by have := XB.out.lt; have := ORD.out; omega); replace XA : Sl (Blk w6 gA 69 r.cells) := ⟨zb⟩; clear zm zs zb))
  refine bodyPost_ret (results_cell_row rfl _ _ gA _ _ _ _ rfl XA.out Tryz.underlying69 rfl size_ratio) rfl ?_; exact ⟨rfl, HB.out⟩
set_option maxHeartbeats 1600000 in
set_option maxRecDepth 100000 in
theorem tcents_any (a : RV) (m : Int) (w : World) (H : Sl (∀ W : World, PrT W → Calls Tryz.prog 62 #[.agg a.cells] W fun e w' => (∃ b, e = .returned (.tuple #[.int .i64 m, .bool b, .int .i64 0])) ∧ Below W.heap.size W w')) (hT : PrT w) : Calls Tryz.prog 37 #[.agg a.cells] w fun e w' => e = .returned (.int .i64 m) ∧ Below w.heap.size w w' := by
  have HB : Sl (Below w.heap.size w w) := ⟨Below.refl _ _⟩; have HT : Sl _ := ⟨hT⟩; clear hT; go_enter Tryz.func37, Tryz.ntmps37
  go_wp2_with ((with_reducible show wpList _ _ _ _ _ _); first
    | (refine wpList_box_new 1 rfl rfl 69 (.tmp 0) rfl a.cells rfl (box_ratio a) ?_; rintro w1 gP zg zm zs zb; have ORD : Sl (w.heap.size ≤ gP) := ⟨by have := HB.out.size; omega⟩; replace HB := HB.v zm (by have := HB.out.size; have := ORD.out; omega); have XP : Sl (Blk w1 gP 69 a.cells) := ⟨zb⟩; clear zg zm zs zb)
    | (refine wpList_load_whole rfl 69 (.tmp 1) rfl gP rfl 69 a.cells _ XP.out Tryz.underlying69 rfl size_ratio ?_))
  refine (H.out _ (HT.out.below HB.out)).mono ?_; rintro e w2 ⟨⟨bx, rfl⟩, hb⟩; replace HB := HB.y hb; replace XP := XP.x hb; clear hb; go_wp2_with fail; go_ret; exact ⟨rfl, HB.out⟩
end Go.Proofs.YtgmpipimancnhaaGreatDoor
namespace Go.Proofs.YtgmpipimancnhaaGreatDoor
set_option linter.unusedSimpArgs false
open Go.RowKit
set_option linter.unusedVariables false
theorem fold_flo {u : Nat → Int} {D : Int} (hu : fitsV u D) (hz : fitsV (fol u D) D) {w : World} (hT : PrT w) :
    -1000000000000 ≤ flo u D ∧ flo u D ≤ 1000000000000 ∧ (checkS (nr u D) = 0 → ∀ e, FloorRes (termsN (nr u D) 6) 1 (nr u D).d (sgR (nr u D) 1) e → ∃ b er, e = .returned (.tuple #[.int .i64 (flo u D), .bool b, .int .i64 er])) ∧ foldS (nr u D) (flo u D) = (nr (fol u D) D, flo u D, 0) := by
  obtain ⟨k, h1, h2, h3, h4⟩ := fold_kk (nr u D) w hT; obtain ⟨g1, g2⟩ := h4 (nr_ok hu); have e1 : TT (k * D) u := ((TT_nr 1 hu.1.1).1 g1).congr fun j _ => Int.mul_one _
  have e2 : SS ((k + 1) * D) u := ((SS_nr 1 hu.1.1).1 g2).congr fun j _ => Int.mul_one _
  have ek : flo u D = k := flo_eq hu.1.1 e1 e2; rw [ek]; refine ⟨h1, h2, h3, fold_nr hu hz fun j _ => ?_⟩; unfold fol oct; rw [ek]
  split
  · rfl
  · omega
theorem folded_nr {u : Nat → Int} {D : Int} (hu : fitsV u D) (hz : fitsV (fol u D) D) (w : World) (hT : PrT w) :
    Calls Tryz.prog 60 #[.agg (nr u D).cells] w fun e w' => e = .returned (.agg (nr (fol u D) D).cells) ∧ Below w.heap.size w w' := by
  refine tfolded_any _ _ (flo u D) w ⟨fun W h => ?_⟩ hT; obtain ⟨h1, h2, h3, h4⟩ := fold_flo hu hz h; have := vFold_any (nr u D) (flo u D) W h h3 h1 h2; rw [h4] at this; exact this
noncomputable def cmN (u : Nat → Int) (D : Int) : Int := Classical.epsilon fun m => ∃ b, Ce (nr u D) m b
theorem Ce.same {r : RV} {m m' : Int} {b b' : Bool} (h : Ce r m b) (h' : Ce r m' b') : m = m' := by
  have hd := (checkS_ok h.ok).1.1; have l1 := lt_of_mul_lt hd (h.lo.lt h'.hi); have l2 := lt_of_mul_lt hd (h'.lo.lt h.hi); omega
theorem Ce.cm {u : Nat → Int} {D m : Int} {b : Bool} (h : Ce (nr u D) m b) : cmN u D = m := by
  obtain ⟨b', h'⟩ := Classical.epsilon_spec (p := fun m => ∃ b, Ce (nr u D) m b) ⟨m, b, h⟩; exact h'.same h
theorem cents_tame {u : Nat → Int} {D : Int} (hu : fitsV u D) (h1 : TT (-D) u) (h2 : SS D u) {e : Ending} (h : CentsRes e (nr u D)) :
    (∃ b, e = .returned (.tuple #[.int .i64 (cmN u D), .bool b, .int .i64 0]) ∧ Ce (nr u D) (cmN u D) b) ∧ -1200000 ≤ cmN u D ∧ cmN u D < 1200000 := by
  have h0 := nr_ok hu; obtain ⟨m, b, er, rfl, _, _⟩ := CentsRes_bd h; have hD := hu.1.1; have t1 : TT (-1200000 * D) (fun j => u j * 1200000) := (h1.scale 1200000).cast (by show -D * 1200000 = _; omega) fun j _ => rfl
  have t2 : SS (1200000 * D) (fun j => u j * 1200000) := (h2.scale' (n := 1200000) (by decide)).cast (by show D * 1200000 = _; omega) fun j _ => rfl
  have her : er = 0 := by
    have r1 := (checkS_ok h0).1.1; have g1 := (TT_nr (D := D) (u := u) (x := -1200000) 1200000 hD).2 t1; have g2 := (SS_nr (D := D) (u := u) (x := 1200000) 1200000 hD).2 t2; have h1 := h.2 h0; unfold FloorRes at h1
    split at h1
    · rename_i hc; exfalso; rcases hc with hc | hc
      · have := lt_of_mul_lt r1 (((sgM_TT _ 1200000 _ 1000000000001).1 hc).lt g2); omega
      · have := lt_of_mul_lt r1 (g1.lt ((sgM_SS _ 1200000 _ (-1000000000000)).1 hc)); omega
    · obtain ⟨m', _, _, _, _, h1⟩ := h1; injection h1 with h1
      injection h1 with h1
      simp at h1; exact h1.2.2
  subst her; have hc := Ce.of h rfl; have hm := hc.cm; rw [hm]; have l1 := lt_of_mul_lt hD (((TT_nr 1200000 hD).1 hc.lo).lt t2); have l2 := lt_of_mul_lt hD (t1.lt ((SS_nr 1200000 hD).1 hc.hi)); exact ⟨⟨b, rfl, hc⟩, by omega, by omega⟩
theorem tcents_nr {u : Nat → Int} {D : Int} (hu : fitsV u D) (h1 : TT (-D) u) (h2 : SS D u) (w : World) (hT : PrT w) :
    Calls Tryz.prog 37 #[.agg (nr u D).cells] w fun e w' => e = .returned (.int .i64 (cmN u D)) ∧ Below w.heap.size w w' := by
  refine tcents_any _ _ w ⟨fun W h => ?_⟩ hT; refine (Cents_any (nr u D) W h).mono fun e w' ⟨hc, hb⟩ => ?_
  obtain ⟨⟨b, h3, _⟩, _⟩ := cents_tame hu h1 h2 hc; exact ⟨⟨b, h3⟩, hb⟩
end Go.Proofs.YtgmpipimancnhaaGreatDoor
namespace Go.Proofs.YtgmpipimancnhaaGreatDoor
set_option linter.unusedSimpArgs false
open Go.RowKit
set_option linter.unusedVariables false
def flatR (f : Nat → RV) : Array Value := #[.int .i64 (f 0).n0, .int .i64 (f 0).n1, .int .i64 (f 0).n2, .int .i64 (f 0).n3, .int .i64 (f 0).n4, .int .i64 (f 0).n5, .int .i64 (f 0).d, .int .i64 (f 1).n0, .int .i64 (f 1).n1, .int .i64 (f 1).n2, .int .i64 (f 1).n3, .int .i64 (f 1).n4, .int .i64 (f 1).n5, .int .i64 (f 1).d, .int .i64 (f 2).n0, .int .i64 (f 2).n1, .int .i64 (f 2).n2, .int .i64 (f 2).n3, .int .i64 (f 2).n4, .int .i64 (f 2).n5, .int .i64 (f 2).d, .int .i64 (f 3).n0, .int .i64 (f 3).n1, .int .i64 (f 3).n2, .int .i64 (f 3).n3, .int .i64 (f 3).n4, .int .i64 (f 3).n5, .int .i64 (f 3).d, .int .i64 (f 4).n0, .int .i64 (f 4).n1, .int .i64 (f 4).n2, .int .i64 (f 4).n3, .int .i64 (f 4).n4, .int .i64 (f 4).n5, .int .i64 (f 4).d, .int .i64 (f 5).n0, .int .i64 (f 5).n1, .int .i64 (f 5).n2, .int .i64 (f 5).n3, .int .i64 (f 5).n4, .int .i64 (f 5).n5, .int .i64 (f 5).d, .int .i64 (f 6).n0, .int .i64 (f 6).n1, .int .i64 (f 6).n2, .int .i64 (f 6).n3, .int .i64 (f 6).n4, .int .i64 (f 6).n5, .int .i64 (f 6).d, .int .i64 (f 7).n0, .int .i64 (f 7).n1, .int .i64 (f 7).n2, .int .i64 (f 7).n3, .int .i64 (f 7).n4, .int .i64 (f 7).n5, .int .i64 (f 7).d, .int .i64 (f 8).n0, .int .i64 (f 8).n1, .int .i64 (f 8).n2, .int .i64 (f 8).n3, .int .i64 (f 8).n4, .int .i64 (f 8).n5, .int .i64 (f 8).d, .int .i64 (f 9).n0, .int .i64 (f 9).n1, .int .i64 (f 9).n2, .int .i64 (f 9).n3, .int .i64 (f 9).n4, .int .i64 (f 9).n5, .int .i64 (f 9).d, .int .i64 (f 10).n0, .int .i64 (f 10).n1, .int .i64 (f 10).n2, .int .i64 (f 10).n3, .int .i64 (f 10).n4, .int .i64 (f 10).n5, .int .i64 (f 10).d, .int .i64 (f 11).n0, .int .i64 (f 11).n1, .int .i64 (f 11).n2, .int .i64 (f 11).n3, .int .i64 (f 11).n4, .int .i64 (f 11).n5, .int .i64 (f 11).d]
theorem flatR_size (f : Nat → RV) : (flatR f).size = 84 := by kernel_rfl
theorem flatR_one (f : Nat → RV) : (flatR f).all (·.oneCell') = true := by kernel_rfl
theorem flatR_ext {f g : Nat → RV} (h : ∀ k, k < 12 → f k = g k) : flatR f = flatR g := by
  have h0 := h 0 (by decide); have h1 := h 1 (by decide); have h2 := h 2 (by decide); have h3 := h 3 (by decide); have h4 := h 4 (by decide); have h5 := h 5 (by decide); have h6 := h 6 (by decide); have h7 := h 7 (by decide); have h8 := h 8 (by decide); have h9 := h 9 (by decide); have h10 := h 10 (by decide); have h11 := h 11 (by decide); unfold flatR; rw [h0, h1, h2, h3, h4, h5, h6, h7, h8, h9, h10, h11]
theorem idxR (f : Nat → RV) (W : World) {k : Nat} (hk : k < 12) : (Instr.index 70 (.agg (flatR f)) (.int .i64 (k : Int))).run Tryz.prog W = .ok (.agg (f k).cells) W := by
  rcases twelve hk with rfl | rfl | rfl | rfl | rfl | rfl | rfl | rfl | rfl | rfl | rfl | rfl <;> kernel_rfl
theorem putR (f : Nat → RV) (r : RV) {k : Nat} (hk : k < 12) : putA (flatR f) (k * 7) r.cells.toList = flatR (fun j => if j = k then r else f j) := by
  rcases twelve hk with rfl | rfl | rfl | rfl | rfl | rfl | rfl | rfl | rfl | rfl | rfl | rfl <;> kernel_rfl
theorem extR (f : Nat → RV) {k : Nat} (hk : k < 12) : (flatR f).extract (k * 7) (k * 7 + (f k).cells.size) = (f k).cells := by
  rcases twelve hk with rfl | rfl | rfl | rfl | rfl | rfl | rfl | rfl | rfl | rfl | rfl | rfl <;> kernel_rfl
theorem alloc_twelve (w : World) : (Instr.alloc 70 true (.tuple #[])).run Tryz.prog w = .ok (.pointer (some ⟨w.heap.size, 0, none⟩)) (w.alloc (.cells (flatR fun _ => RVzero) 70)) := by kernel_rfl
theorem size_twelve (f : Nat → RV) : (Tryz.prog.info? 70).map (·.size) = some (flatR f).size := by kernel_rfl
theorem alloc_part (w : World) : (Instr.alloc 23 true (.tuple #[])).run Tryz.prog w = .ok (.pointer (some ⟨w.heap.size, 0, none⟩)) (w.alloc (.cells #[.int .i64 0, .int .i64 0] 23)) := by kernel_rfl
theorem size_part (x y : Int) : (Tryz.prog.info? 23).map (·.size) = some (#[Value.int .i64 x, Value.int .i64 y]).size := by kernel_rfl
theorem part_one (x y : Int) : (#[Value.int .i64 x, Value.int .i64 y]).all (·.oneCell') = true := by kernel_rfl
theorem size_parts2 (t : TV) : (Tryz.prog.info? 24).map (·.size) = some t.parts.size := by kernel_rfl
theorem parts_ext (t : TV) : t.cells.extract 3 (3 + t.parts.size) = t.parts := by kernel_rfl
theorem Blk.atR {w : World} {g : Nat} {t : TypeId} {f : Nat → RV} (h : Blk w g t (flatR f)) {k : Nat} (hk : k < 12) : w.rangeAt g (k * 7) (f k).cells.toList := by
  have := World.rangeAt_of_block h (k * 7) (f k).cells.size; rw [extR f hk] at this; exact this
theorem Blk.all {w : World} {g : Nat} {t : TypeId} {cs : Array Value} (h : Blk w g t cs) : w.rangeAt g 0 cs.toList := by
  have := World.rangeAt_of_block h 0 cs.size; rw [Nat.zero_add, Array.extract_size] at this; exact this
end Go.Proofs.YtgmpipimancnhaaGreatDoor
namespace Go.Proofs.YtgmpipimancnhaaGreatDoor
set_option linter.unusedSimpArgs false
open Go.RowKit
set_option linter.unusedVariables false
attribute [-simp] Tryz.isAgg69 Tryz.isAgg70 Tryz.isAgg24 Tryz.isAgg23
noncomputable def TV.fA (t : TV) (k i : Nat) : RV := if i < k ∧ i ≠ t.tp.w then nr (t.tp.g i) t.tp.D else RVzero
theorem TV.fA_zero (t : TV) : flatR (t.fA 0) = flatR (fun _ => RVzero) := flatR_ext fun i _ => by unfold TV.fA; rw [if_neg (by omega)]
theorem TV.fA_wolf (t : TV) {k : Nat} (hk : k = t.tp.w) : flatR (t.fA (k + 1)) = flatR (t.fA k) := flatR_ext fun i _ => by
  unfold TV.fA
  by_cases h : i < k ∧ i ≠ t.tp.w
  · rw [if_pos h, if_pos ⟨by omega, h.2⟩]
  · rw [if_neg h, if_neg (fun h2 => h ⟨by omega, h2.2⟩)]
theorem TV.fA_succ (t : TV) {k : Nat} (hk : k ≠ t.tp.w) : flatR (fun j => if j = k then nr (t.tp.g k) t.tp.D else t.fA k j) = flatR (t.fA (k + 1)) := flatR_ext fun i _ => by
  show (if i = k then nr (t.tp.g k) t.tp.D else t.fA k i) = t.fA (k + 1) i; unfold TV.fA
  by_cases h0 : i = k
  · subst h0; rw [if_pos rfl, if_pos ⟨by omega, hk⟩]
  · rw [if_neg h0]
    by_cases h : i < k ∧ i ≠ t.tp.w
    · rw [if_pos h, if_pos ⟨by omega, h.2⟩]
    · rw [if_neg h, if_neg (fun h2 => h ⟨by omega, h2.2⟩)]
theorem TV.fA_end (t : TV) : flatR (fun j => if j = t.tp.w then nr (t.tp.rv 12) t.tp.D else t.fA 12 j) = flatR (fun k => nr (t.tp.f k) t.tp.D) := flatR_ext fun i hi => by
  show (if i = t.tp.w then nr (t.tp.rv 12) t.tp.D else t.fA 12 i) = nr (t.tp.f i) t.tp.D
  by_cases h : i = t.tp.w
  · rw [if_pos h, h, TP.f_w]
  · rw [if_neg h, TP.f_ne h]; unfold TV.fA; rw [if_pos ⟨hi, h⟩]
set_option maxHeartbeats 6400000 in
set_option maxRecDepth 100000 in
theorem fifths_any (t : TV) (hc : t.chk nameS = 0) (gT : Nat) (w : World) (hT : PrT w) (hB : Blk w gT 26 t.cells) :
    Calls Tryz.prog 59 #[.pointer (some ⟨gT, 0, none⟩)] w fun e w' => e = .returned (.agg (flatR fun k => nr (t.tp.f k) t.tp.D)) ∧ Below w.heap.size w w' := by
  have HB : Sl (Below w.heap.size w w) := ⟨Below.refl _ _⟩; have HT : Sl _ := ⟨hT⟩; have hTO := TV.tp_ok hc; have HTO : Sl _ := ⟨hTO⟩; have HCK : Sl _ := ⟨TV.chk_ok hc⟩; have HPT : Sl (∀ k, k < 12 → powS (nr (cmv t.syn) 1) (t.num k) (t.den k) = (nr (t.tp.pt k) t.tp.D, 0)) := ⟨fun k hk => TV.part_pow hc hk⟩; obtain ⟨W, hW⟩ : ∃ W : Nat, t.wolf = (W : Int) := ⟨t.wolf.toNat, by have := HCK.out.1; omega⟩; have hWt : t.tp.w = W := (by show t.wolf.toNat = W; rw [hW]; rfl); have HWT : Sl _ := ⟨And.intro hW hWt⟩; have XT : Sl (Blk w gT 26 t.cells) := ⟨hB⟩; have ORD : Sl (gT < w.heap.size) := ⟨hB.lt⟩; have HIX : Sl _ := ⟨fun (W : World) (k : Nat) (hk : k < 12) => idxT t W hk⟩; have HW12 : W < 12 := (by have := HCK.out.1; omega); obtain ⟨syn, hsyn⟩ : ∃ b, t.syn = b := ⟨_, rfl⟩; have HSY : Sl _ := ⟨hsyn⟩; clear hT hTO hc hB hW hWt hsyn; have HC1 : Sl (∀ W : World, PrT W → Calls Tryz.prog 58 #[.int .i64 531441, .int .i64 524288] W fun e w' => e = .returned (.agg (nr (cmv false) 1).cells) ∧ Below W.heap.size W w') := ⟨fun W h => whole_any _ _ _ W h (of_comma false)⟩; have HC2 : Sl (∀ W : World, PrT W → Calls Tryz.prog 58 #[.int .i64 81, .int .i64 80] W fun e w' => e = .returned (.agg (nr (cmv true) 1).cells) ∧ Below W.heap.size W w') := ⟨fun W h => whole_any _ _ _ W h (of_comma true)⟩; have HC3 : Sl (∀ W : World, PrT W → Calls Tryz.prog 58 #[.int .i64 128, .int .i64 1] W fun e w' => e = .returned (.agg (nr (t.tp.rv 0) t.tp.D).cells) ∧ Below W.heap.size W w') := ⟨fun W h => whole_any _ _ _ W h HTO.out.seven⟩; have HC4 : Sl (∀ W : World, PrT W → Calls Tryz.prog 58 #[.int .i64 3, .int .i64 2] W fun e w' => e = .returned (.agg (nr (fun j => b32 j * t.tp.D) t.tp.D).cells) ∧ Below W.heap.size W w') := ⟨fun W h => whole_any _ _ _ W h (fif_up HTO.out.hD.1)⟩; go_enter Tryz.func59, Tryz.ntmps59
  go_wp2_with ((with_reducible show wpList _ _ _ _ _ _); first
    | (refine wpList_alloc_new 2 rfl rfl 70 rfl (flatR fun _ => RVzero) alloc_twelve ?_; rintro w1 gR zg zm zs zb; replace ORD : Sl (gT < w.heap.size ∧ w.heap.size ≤ gR) := ⟨by have := HB.out.size; have := ORD.out; have := XT.out.lt; omega⟩; replace HB := HB.v zm (by have := HB.out.size; have := ORD.out; omega); replace XT := XT.w zm (by have := XT.out.lt; have := ORD.out; omega); have XR : Sl (Blk w1 gR 70 (flatR fun _ => RVzero)) := ⟨zb⟩; clear zg zm zs zb))
  refine (HC1.out _ (HT.out.below HB.out)).mono ?_; rintro e w2 ⟨rfl, hb⟩; replace HB := HB.y hb; replace XT := XT.x hb; replace XR := XR.x hb; clear hb
  go_upto_if 14 with ((with_reducible show wpList _ _ _ _ _ _); first
    | (refine wpList_alloc_new 3 rfl rfl 69 rfl RVzero.cells alloc_ratio ?_; rintro w3 gC zg zm zs zb; replace ORD : Sl (gT < w.heap.size ∧ w.heap.size ≤ gR ∧ gR < gC) := ⟨by have := HB.out.size; have := ORD.out; have := XT.out.lt; have := XR.out.lt; omega⟩; replace HB := HB.v zm (by have := HB.out.size; have := ORD.out; omega); replace XT := XT.w zm (by have := XT.out.lt; have := ORD.out; omega); replace XR := XR.w zm (by have := XR.out.lt; have := ORD.out; omega); have XC : Sl (Blk w3 gC 69 RVzero.cells) := ⟨zb⟩; clear zg zm zs zb)
    | (refine wpList_store_whole rfl 69 (.tmp 3) (.tmp 10) rfl gC (nr (cmv false) 1).cells rfl rfl 69 RVzero.cells XC.out rfl size_ratio (RV.cells_one _) ?_; rintro w4 zm zs zb; replace HB := HB.v zm (by have := ORD.out; omega); replace XT := XT.w zm (by have := XT.out.lt; have := ORD.out; omega); replace XR := XR.w zm (by have := XR.out.lt; have := ORD.out; omega); replace XC : Sl (Blk w4 gC 69 (nr (cmv false) 1).cells) := ⟨zb⟩; clear zm zs zb; have cs1 : w4.cell? ⟨gT, 1, none⟩ = some (.bool t.syn) := XT.out.cell 1; rw [HSY.out] at cs1))
  clear cs1
  go_cut [] from 15 to 15 (fun wx => Sl (Below w.heap.size w wx) ∧ Sl (Blk wx gT 26 t.cells) ∧ Sl (Blk wx gR 70 (flatR fun _ => RVzero)) ∧ Sl (Blk wx gC 69 (nr (cmv syn) 1).cells))
  case first =>
    cases syn
    · skip; go_wp2_with fail
      go_meet
      exact ⟨HB, XT, XR, XC⟩
    · skip; go_wp2_with fail; refine (HC2.out _ (HT.out.below HB.out)).mono ?_; rintro e w15 ⟨rfl, hb⟩; replace HB := HB.y hb; replace XT := XT.x hb; replace XR := XR.x hb; replace XC := XC.x hb; clear hb
      go_wp2_with ((with_reducible show wpList _ _ _ _ _ _); first
        | (refine wpList_store_whole rfl 69 (.tmp 3) (.tmp 15) rfl gC (nr (cmv true) 1).cells rfl rfl 69 (nr (cmv false) 1).cells XC.out rfl size_ratio (RV.cells_one _) ?_; rintro w16 zm zs zb; replace HB := HB.v zm (by have := ORD.out; omega); replace XT := XT.w zm (by have := XT.out.lt; have := ORD.out; omega); replace XR := XR.w zm (by have := XR.out.lt; have := ORD.out; omega); replace XC : Sl (Blk w16 gC 69 (nr (cmv true) 1).cells) := ⟨zb⟩; clear zm zs zb))
      go_meet
      exact ⟨HB, XT, XR, XC⟩
  case rest =>
    clear HB XT XR XC; obtain ⟨HB, XT, XR, XC⟩ := hcut; clear HC1 HC2
    go_wp2_with ((with_reducible show wpList _ _ _ _ _ _); first
      | (refine wpList_alloc_new 4 rfl rfl 70 rfl (flatR fun _ => RVzero) alloc_twelve ?_; rintro w17 gL zg zm zs zb; replace ORD : Sl (gT < w.heap.size ∧ w.heap.size ≤ gR ∧ gR < gC ∧ gC < gL) := ⟨by have := HB.out.size; have := ORD.out; have := XT.out.lt; have := XR.out.lt; have := XC.out.lt; omega⟩; replace HB := HB.v zm (by have := HB.out.size; have := ORD.out; omega); replace XT := XT.w zm (by have := XT.out.lt; have := ORD.out; omega); replace XR := XR.w zm (by have := XR.out.lt; have := ORD.out; omega); replace XC := XC.w zm (by have := XC.out.lt; have := ORD.out; omega); have XL : Sl (Blk w17 gL 70 (flatR fun _ => RVzero)) := ⟨zb⟩; clear zg zm zs zb))
    refine (HC3.out _ (HT.out.below HB.out)).mono ?_; rintro e w18 ⟨rfl, hb⟩; replace HB := HB.y hb; replace XT := XT.x hb; replace XR := XR.x hb; replace XC := XC.x hb; replace XL := XL.x hb; clear hb
    go_wp2_with ((with_reducible show wpList _ _ _ _ _ _); first
      | (refine wpList_alloc_new 5 rfl rfl 69 rfl RVzero.cells alloc_ratio ?_; rintro w19 gN zg zm zs zb; replace ORD : Sl (gT < w.heap.size ∧ w.heap.size ≤ gR ∧ gR < gC ∧ gC < gL ∧ gL < gN) := ⟨by have := HB.out.size; have := ORD.out; have := XT.out.lt; have := XR.out.lt; have := XC.out.lt; have := XL.out.lt; omega⟩; replace HB := HB.v zm (by have := HB.out.size; have := ORD.out; omega); replace XT := XT.w zm (by have := XT.out.lt; have := ORD.out; omega); replace XR := XR.w zm (by have := XR.out.lt; have := ORD.out; omega); replace XC := XC.w zm (by have := XC.out.lt; have := ORD.out; omega); replace XL := XL.w zm (by have := XL.out.lt; have := ORD.out; omega); have XN : Sl (Blk w19 gN 69 RVzero.cells) := ⟨zb⟩; clear zg zm zs zb)
      | (refine wpList_store_whole rfl 69 (.tmp 5) (.tmp 16) rfl gN (nr (t.tp.rv 0) t.tp.D).cells rfl rfl 69 RVzero.cells XN.out rfl size_ratio (RV.cells_one _) ?_; rintro w20 zm zs zb; replace HB := HB.v zm (by have := ORD.out; omega); replace XT := XT.w zm (by have := XT.out.lt; have := ORD.out; omega); replace XR := XR.w zm (by have := XR.out.lt; have := ORD.out; omega); replace XC := XC.w zm (by have := XC.out.lt; have := ORD.out; omega); replace XL := XL.w zm (by have := XL.out.lt; have := ORD.out; omega); replace XN : Sl (Blk w20 gN 69 (nr (t.tp.rv 0) t.tp.D).cells) := ⟨zb⟩; clear zm zs zb)
      | (refine wpList_load_part rfl 24 (.tmp 19) rfl gT (3) rfl 26 t.cells t.parts _ XT.out (parts_ext t) Tryz.underlying24 rfl (size_parts2 t) ?_))
    have ORD0 := ORD
    go_loopw [21] (fun s21 wr => ∃ k : Nat, k ≤ 12 ∧ s21 = .int .i64 k ∧ Sl (Below w.heap.size w wr) ∧ Sl (Blk wr gT 26 t.cells) ∧ Sl (Blk wr gR 70 (flatR fun _ => RVzero)) ∧ Sl (Blk wr gC 69 (nr (cmv syn) 1).cells) ∧ Sl (Blk wr gL 70 (flatR (t.fA k))) ∧ Sl (Blk wr gN 69 (nr (t.tp.rv k) t.tp.D).cells)) (fun s21 _ => 12 - (RowKit.intOf s21).toNat)
    case atStart => exact ⟨0, by decide, rfl, HB, XT, XR, XC, ⟨by rw [TV.fA_zero]; exact XL.out⟩, XN⟩
    case round =>
      clear HB XT XR XC XL XN; obtain ⟨k, hk, rfl, HB, XT, XR, XC, XL, XN⟩ := hrel
      by_cases hk12 : k < 12
      · have hix := fun W : World => HIX.out W k hk12
        obtain ⟨n, hn⟩ : ∃ n, t.num k = n := ⟨_, rfl⟩; obtain ⟨d, hd⟩ : ∃ d, t.den k = d := ⟨_, rfl⟩; have hpt := HPT.out k hk12; rw [hn, hd] at hix hpt; rw [HSY.out] at hpt
        have HPW : Sl (∀ W : World, Calls Tryz.prog 84 #[.agg (nr (cmv syn) 1).cells, .int .i64 n, .int .i64 d] W fun e w' => e = .returned (.tuple #[.agg (nr (t.tp.pt k) t.tp.D).cells, .int .i64 0]) ∧ Below W.heap.size W w') := ⟨fun W => by
          have := vPow_any (nr (cmv syn) 1) n d W; rw [hpt] at this
          exact this⟩
        clear hn hd hpt
        by_cases hkw : k = W
        · have hne : ((k : Int) != (W : Int)) = false := (by rw [bne_eq_false_iff_eq]; omega); have hkt : k = t.tp.w := hkw.trans HWT.out.2.symm; have HKT : Sl _ := ⟨hkt⟩; clear hkt hkw
          go_wp2_with ((with_reducible show wpList _ _ _ _ _ _); first
            | (refine wpList_alloc_new 7 rfl rfl 23 rfl #[.int .i64 0, .int .i64 0] alloc_part ?_; rintro w21 gP zg zm zs zb; replace ORD : Sl (gT < w.heap.size ∧ w.heap.size ≤ gR ∧ gR < gC ∧ gC < gL ∧ gL < gN ∧ gN < gP) := ⟨by have := HB.out.size; have := ORD.out; have := XT.out.lt; have := XR.out.lt; have := XC.out.lt; have := XL.out.lt; have := XN.out.lt; omega⟩; replace HB := HB.v zm (by have := HB.out.size; have := ORD.out; omega); replace XT := XT.w zm (by have := XT.out.lt; have := ORD.out; omega); replace XR := XR.w zm (by have := XR.out.lt; have := ORD.out; omega); replace XC := XC.w zm (by have := XC.out.lt; have := ORD.out; omega); replace XL := XL.w zm (by have := XL.out.lt; have := ORD.out; omega); replace XN := XN.w zm (by have := XN.out.lt; have := ORD.out; omega); have XP : Sl (Blk w21 gP 23 #[.int .i64 0, .int .i64 0]) := ⟨zb⟩; clear zg zm zs zb)
            | (refine wpList_store_whole rfl 23 (.tmp 7) (.tmp 24) rfl gP #[.int .i64 n, .int .i64 d] rfl rfl 23 #[.int .i64 0, .int .i64 0] XP.out rfl (size_part n d) (part_one n d) ?_; rintro w22 zm zs zb; replace HB := HB.v zm (by have := ORD.out; omega); replace XT := XT.w zm (by have := XT.out.lt; have := ORD.out; omega); replace XR := XR.w zm (by have := XR.out.lt; have := ORD.out; omega); replace XC := XC.w zm (by have := XC.out.lt; have := ORD.out; omega); replace XL := XL.w zm (by have := XL.out.lt; have := ORD.out; omega); replace XN := XN.w zm (by have := XN.out.lt; have := ORD.out; omega); replace XP : Sl (Blk w22 gP 23 #[.int .i64 n, .int .i64 d]) := ⟨zb⟩; clear zm zs zb; have cs2 : w22.cell? ⟨gT, 2, none⟩ = some (.int .i64 (W : Int)) := by rw [XT.out.cell 2, t.cell2, HWT.out.1]))
          exact ⟨⟨k + 1, hk12, by go_num, HB, XT, XR, XC, ⟨by rw [TV.fA_wolf t HKT.out]; exact XL.out⟩, ⟨by rw [HKT.out, t.tp.rest_wolf, ← HKT.out]; exact XN.out⟩⟩, by simp [RowKit.intOf]; omega⟩
        · have hne : ((k : Int) != (W : Int)) = true := (by rw [bne_iff_ne]; omega); have hkt : k ≠ t.tp.w := fun h => hkw (h.trans HWT.out.2)
          have HKT : Sl _ := ⟨hkt⟩; clear hkt hkw
          go_wp2_with ((with_reducible show wpList _ _ _ _ _ _); first
            | (refine wpList_alloc_new 7 rfl rfl 23 rfl #[.int .i64 0, .int .i64 0] alloc_part ?_; rintro w123 gP zg zm zs zb; replace ORD : Sl (gT < w.heap.size ∧ w.heap.size ≤ gR ∧ gR < gC ∧ gC < gL ∧ gL < gN ∧ gN < gP) := ⟨by have := HB.out.size; have := ORD.out; have := XT.out.lt; have := XR.out.lt; have := XC.out.lt; have := XL.out.lt; have := XN.out.lt; omega⟩; replace HB := HB.v zm (by have := HB.out.size; have := ORD.out; omega); replace XT := XT.w zm (by have := XT.out.lt; have := ORD.out; omega); replace XR := XR.w zm (by have := XR.out.lt; have := ORD.out; omega); replace XC := XC.w zm (by have := XC.out.lt; have := ORD.out; omega); replace XL := XL.w zm (by have := XL.out.lt; have := ORD.out; omega); replace XN := XN.w zm (by have := XN.out.lt; have := ORD.out; omega); have XP : Sl (Blk w123 gP 23 #[.int .i64 0, .int .i64 0]) := ⟨zb⟩; clear zg zm zs zb)
            | (refine wpList_store_whole rfl 23 (.tmp 7) (.tmp 24) rfl gP #[.int .i64 n, .int .i64 d] rfl rfl 23 #[.int .i64 0, .int .i64 0] XP.out rfl (size_part n d) (part_one n d) ?_; rintro w124 zm zs zb; replace HB := HB.v zm (by have := ORD.out; omega); replace XT := XT.w zm (by have := XT.out.lt; have := ORD.out; omega); replace XR := XR.w zm (by have := XR.out.lt; have := ORD.out; omega); replace XC := XC.w zm (by have := XC.out.lt; have := ORD.out; omega); replace XL := XL.w zm (by have := XL.out.lt; have := ORD.out; omega); replace XN := XN.w zm (by have := XN.out.lt; have := ORD.out; omega); replace XP : Sl (Blk w124 gP 23 #[.int .i64 n, .int .i64 d]) := ⟨zb⟩; clear zm zs zb; have cs2 : w124.cell? ⟨gT, 2, none⟩ = some (.int .i64 (W : Int)) := (by rw [XT.out.cell 2, t.cell2, HWT.out.1]); have cp0 : w124.cell? ⟨gP, 0, none⟩ = some (.int .i64 n) := XP.out.cell 0; have cp1 : w124.cell? ⟨gP, 1, none⟩ = some (.int .i64 d) := XP.out.cell 1)
            | (refine wpList_load_whole rfl 69 (.tmp 3) rfl gC rfl 69 (nr (cmv syn) 1).cells _ XC.out Tryz.underlying69 rfl size_ratio ?_))
          clear cs2 cp0 cp1; refine (HPW.out _).mono ?_; rintro e w125 ⟨rfl, hb⟩; replace HB := HB.y hb; replace XT := XT.x hb; replace XR := XR.x hb; replace XC := XC.x hb; replace XL := XL.x hb; replace XN := XN.x hb; replace XP := XP.x hb; clear hb
          go_wp2_with ((with_reducible show wpList _ _ _ _ _ _); first
            | (refine wpList_alloc_new 8 rfl rfl 69 rfl RVzero.cells alloc_ratio ?_; rintro w126 gQ zg zm zs zb; replace ORD : Sl (gT < w.heap.size ∧ w.heap.size ≤ gR ∧ gR < gC ∧ gC < gL ∧ gL < gN ∧ gN < gP ∧ gP < gQ) := ⟨by have := HB.out.size; have := ORD.out; have := XT.out.lt; have := XR.out.lt; have := XC.out.lt; have := XL.out.lt; have := XN.out.lt; have := XP.out.lt; omega⟩; replace HB := HB.v zm (by have := HB.out.size; have := ORD.out; omega); replace XT := XT.w zm (by have := XT.out.lt; have := ORD.out; omega); replace XR := XR.w zm (by have := XR.out.lt; have := ORD.out; omega); replace XC := XC.w zm (by have := XC.out.lt; have := ORD.out; omega); replace XL := XL.w zm (by have := XL.out.lt; have := ORD.out; omega); replace XN := XN.w zm (by have := XN.out.lt; have := ORD.out; omega); replace XP := XP.w zm (by have := XP.out.lt; have := ORD.out; omega); have XQ : Sl (Blk w126 gQ 69 RVzero.cells) := ⟨zb⟩; clear zg zm zs zb)
            | (refine wpList_store_whole rfl 69 (.tmp 8) (.tmp 38) rfl gQ (nr (t.tp.pt k) t.tp.D).cells rfl rfl 69 RVzero.cells XQ.out rfl size_ratio (RV.cells_one _) ?_; rintro w127 zm zs zb; replace HB := HB.v zm (by have := ORD.out; omega); replace XT := XT.w zm (by have := XT.out.lt; have := ORD.out; omega); replace XR := XR.w zm (by have := XR.out.lt; have := ORD.out; omega); replace XC := XC.w zm (by have := XC.out.lt; have := ORD.out; omega); replace XL := XL.w zm (by have := XL.out.lt; have := ORD.out; omega); replace XN := XN.w zm (by have := XN.out.lt; have := ORD.out; omega); replace XP := XP.w zm (by have := XP.out.lt; have := ORD.out; omega); replace XQ : Sl (Blk w127 gQ 69 (nr (t.tp.pt k) t.tp.D).cells) := ⟨zb⟩; clear zm zs zb))
          have hk1 : (0 : Int) ≤ (k : Int) := (by omega); have hk2 : (k : Int) < 12 := (by omega); have HOV : Sl (∀ W : World, Calls Tryz.prog 64 #[.agg (nr (fun j => b32 j * t.tp.D) t.tp.D).cells, .agg (nr (t.tp.pt k) t.tp.D).cells] W fun e w' => e = .returned (.agg (nr (t.tp.g k) t.tp.D).cells) ∧ Below W.heap.size W w') := ⟨fun W => tover_any _ _ _ W (HTO.out.fifth_join hk12 HKT.out)⟩; have HWH : Sl (∀ W : World, PrT W → Calls Tryz.prog 58 #[.int .i64 3, .int .i64 2] W fun e w' => e = .returned (.agg (nr (fun j => b32 j * t.tp.D) t.tp.D).cells) ∧ Below W.heap.size W w') := ⟨fun W h => HC4.out W h⟩; have hm : Mv gL w127 w127.drew := Mv.drew _ _; have hs : RowKit.Below w127.heap.size w127 w127.drew := below_drewN (Below.refl _ _) 1; have HSW : Sl _ := ⟨hs⟩; clear hs; refine wp_region_held_drew (S := fun w' => Mv gL w127 w') (by kernel_rfl) hm (fun hHeld => ?_); clear hm; refine wpAnyH_pure 0 (v := .int .i64 (k : Int)) rfl (by kernel_rfl) (by kernel_rfl) (by kernel_rfl) (fun _ _ _ h => h) rfl (fun _ => rfl) (by assumption) ?_; simp only [Act.put, sS0, sS1, sS2]
          refine wpAnyH_load 2 69 (.tmp 8) rfl rfl rfl gQ (0) rfl (nr (t.tp.pt k) t.tp.D).cells _ (fun w' h => by
            have e := XQ.out.mv h (by have := XQ.out.lt; (try have := ORD.out); omega)
            exact e.all) Tryz.underlying69 rfl size_ratio (by kernel_rfl) (by kernel_rfl) (by kernel_rfl) (fun _ _ _ h => h) (by assumption) ?_
          simp only [Act.put, sS0, sS1, sS2]; refine wpAnyH_one 1 rfl (by kernel_rfl) rfl (fun K hK => ?_); go_simp; go_at_call 58
          (with_reducible refine (HWH.out _ (HT.out.below (HB.out.trans (HSW.out.mono HB.out.size)))).mono ?_)
          rintro e z128 ⟨rfl, hb⟩; replace HSW := HSW.y hb; refine hK.out _ _ (Mv.below HSW.out) (fun hHeld => ?_); clear hK K hb
          (try simp only [Act.put, sS0, sS1, sS2])
          refine wpAnyH_one 3 rfl (by kernel_rfl) rfl (fun K hK => ?_); go_simp; go_at_call 64
          (with_reducible refine (HOV.out _).mono ?_)
          rintro e z129 ⟨rfl, hb⟩; replace HSW := HSW.y hb; refine hK.out _ _ (Mv.below HSW.out) (fun hHeld => ?_); clear hK K hb
          (try simp only [Act.put, sS0, sS1, sS2])
          refine wpAnyH_pure 4 (v := .pointer (some ⟨gL, k * 7, none⟩)) rfl (by kernel_rfl) (by kernel_rfl) (by kernel_rfl) (fun _ _ _ h => h) rfl (fun _ => by go_simp) (by assumption) ?_; simp only [Act.put, sS0, sS1, sS2]; refine wpAnyH_one 5 rfl (by kernel_rfl) rfl (fun K hK => ?_); refine wp_store_part 69 (.tmp 44) (.tmp 43) rfl gL (k * 7) (nr (t.tp.g k) t.tp.D).cells rfl rfl 70 (flatR (t.fA k)) (flatR (t.fA (k + 1))) (XL.out.below HSW.out XL.out.lt) (by rw [flatR_size, RV.cells_size]; omega) ((putR _ _ hk12).trans (t.fA_succ HKT.out)) size_ratio (RV.cells_one _) ?_; rintro w130 zm zs zb; refine hK.out _ _ (Mv.trans (Mv.below HSW.out) zm) (fun hHeld => ?_); clear hK K; simp only [Act.put, sS0, sS1, sS2]; refine wpAnyH_done (by kernel_rfl) ?_ _; replace HB := HB.v hHeld (by have := HB.out.size; have := ORD.out; omega); replace XT := XT.w hHeld (by have := XT.out.lt; have := ORD.out; omega); replace XR := XR.w hHeld (by have := XR.out.lt; have := ORD.out; omega); replace XC := XC.w hHeld (by have := XC.out.lt; have := ORD.out; omega); replace XN := XN.w hHeld (by have := XN.out.lt; have := ORD.out; omega); replace XP := XP.w hHeld (by have := XP.out.lt; have := ORD.out; omega); replace XQ := XQ.w hHeld (by have := XQ.out.lt; have := ORD.out; omega); replace XL : Sl (Blk w130 gL 70 (flatR (t.fA (k + 1)))) := ⟨zb⟩; clear zm zs zb HSW; (try clear hHeld); go_wp2_with fail; have hgk : t.fA (k + 1) k = (nr (t.tp.g k) t.tp.D) := (by unfold TV.fA; rw [if_pos ⟨by omega, HKT.out⟩]); have HGJ : Sl _ := ⟨hgk⟩; clear hgk; have HOR : Sl (∀ W : World, Calls Tryz.prog 64 #[.agg (nr (t.tp.rv k) t.tp.D).cells, .agg (nr (t.tp.g k) t.tp.D).cells] W fun e w' => e = .returned (.agg (nr (t.tp.rv (k + 1)) t.tp.D).cells) ∧ Below W.heap.size W w') := ⟨fun W => tover_any _ _ _ W (HTO.out.rest_join hk12)⟩; have hm : Mv gN w130 w130.drew := Mv.drew _ _; have hs : RowKit.Below w130.heap.size w130 w130.drew := below_drewN (Below.refl _ _) 1; have HSW : Sl _ := ⟨hs⟩; clear hs; refine wp_region_held_drew (S := fun w' => Mv gN w130 w') (by kernel_rfl) hm (fun hHeld => ?_); clear hm; refine wpAnyH_pure 1 (v := .int .i64 (k : Int)) rfl (by kernel_rfl) (by kernel_rfl) (by kernel_rfl) (fun _ _ _ h => h) rfl (fun _ => rfl) (by assumption) ?_; simp only [Act.put, sS0, sS1, sS2]; refine wpAnyH_pure 2 (v := .pointer (some ⟨gL, k * 7, none⟩)) rfl (by kernel_rfl) (by kernel_rfl) (by kernel_rfl) (fun _ _ _ h => h) rfl (fun _ => by go_simp) (by assumption) ?_; simp only [Act.put, sS0, sS1, sS2]
          refine wpAnyH_load 3 69 (.tmp 47) rfl rfl rfl gL (k * 7) rfl (nr (t.tp.g k) t.tp.D).cells _ (fun w' h => by
            have e := XL.out.mv h (by have := XL.out.lt; (try have := ORD.out); omega); have e2 := e.atR hk12; rw [HGJ.out] at e2
            exact e2) Tryz.underlying69 rfl size_ratio (by kernel_rfl) (by kernel_rfl) (by kernel_rfl) (fun _ _ _ h => h) (by assumption) ?_
          simp only [Act.put, sS0, sS1, sS2]; refine wpAnyH_one 0 rfl (by kernel_rfl) rfl (fun K hK => ?_); refine wp_load_all 69 (.tmp 5) rfl gN rfl 69 (nr (t.tp.rv k) t.tp.D).cells _ (XN.out.below HSW.out XN.out.lt) Tryz.underlying69 rfl size_ratio ?_; refine hK.out _ _ (Mv.below HSW.out) (fun hHeld => ?_); clear hK K; simp only [Act.put, sS0, sS1, sS2]; refine wpAnyH_one 4 rfl (by kernel_rfl) rfl (fun K hK => ?_); go_simp; go_at_call 64
          (with_reducible refine (HOR.out _).mono ?_)
          rintro e z131 ⟨rfl, hb⟩; replace HSW := HSW.y hb; refine hK.out _ _ (Mv.below HSW.out) (fun hHeld => ?_); clear hK K hb
          (try simp only [Act.put, sS0, sS1, sS2])
          refine wpAnyH_one 5 rfl (by kernel_rfl) rfl (fun K hK => ?_); refine wp_store_part 69 (.tmp 5) (.tmp 49) rfl gN (0) (nr (t.tp.rv (k + 1)) t.tp.D).cells rfl rfl 69 (nr (t.tp.rv k) t.tp.D).cells (nr (t.tp.rv (k + 1)) t.tp.D).cells (XN.out.below HSW.out XN.out.lt) (by rw [RV.cells_size, RV.cells_size]; omega) (putA_all _ _ rfl) size_ratio (RV.cells_one _) ?_; rintro w132 zm zs zb; refine hK.out _ _ (Mv.trans (Mv.below HSW.out) zm) (fun hHeld => ?_); clear hK K; simp only [Act.put, sS0, sS1, sS2]; refine wpAnyH_done (by kernel_rfl) ?_ _; replace HB := HB.v hHeld (by have := HB.out.size; have := ORD.out; omega); replace XT := XT.w hHeld (by have := XT.out.lt; have := ORD.out; omega); replace XR := XR.w hHeld (by have := XR.out.lt; have := ORD.out; omega); replace XC := XC.w hHeld (by have := XC.out.lt; have := ORD.out; omega); replace XL := XL.w hHeld (by have := XL.out.lt; have := ORD.out; omega); replace XP := XP.w hHeld (by have := XP.out.lt; have := ORD.out; omega); replace XQ := XQ.w hHeld (by have := XQ.out.lt; have := ORD.out; omega); replace XN : Sl (Blk w132 gN 69 (nr (t.tp.rv (k + 1)) t.tp.D).cells) := ⟨zb⟩; clear zm zs zb HSW; (try clear hHeld); go_wp2_with fail; exact ⟨⟨k + 1, hk12, by go_num, HB, XT, XR, XC, XL, XN⟩, by simp [RowKit.intOf]; omega⟩
      · obtain rfl : k = 12 := (by omega); clear hk12 hk; go_wp2_with fail; have hw1 : (0 : Int) ≤ (W : Int) := (by omega); have hw2 : (W : Int) < 12 := (by omega); have hcw : ∀ w' : World, Blk w' gT 26 t.cells → w'.cell? ⟨gT, 2, none⟩ = some (.int .i64 (W : Int)) := fun w' h => by rw [h.cell 2, t.cell2, HWT.out.1]
        have HCW : Sl _ := ⟨hcw⟩; clear hcw; have hput : putA (flatR (t.fA 12)) (W * 7) (nr (t.tp.rv 12) t.tp.D).cells.toList = flatR (fun k => nr (t.tp.f k) t.tp.D) := (by rw [putR _ _ HW12, ← HWT.out.2]; exact t.fA_end); have HPU : Sl _ := ⟨hput⟩; clear hput; have hm : Mv gL wr wr.drew := Mv.drew _ _; have hs : RowKit.Below wr.heap.size wr wr.drew := below_drewN (Below.refl _ _) 1; have HSW : Sl _ := ⟨hs⟩; clear hs; refine wp_region_held_drew (S := fun w' => Mv gL wr w') (by kernel_rfl) hm (fun hHeld => ?_); clear hm; refine wpAnyH_pure 0 (v := .pointer (some ⟨gT, 0, none⟩)) rfl (by kernel_rfl) (by kernel_rfl) (by kernel_rfl) (fun _ _ _ h => h) rfl (fun _ => rfl) (by assumption) ?_; simp only [Act.put, sS0, sS1, sS2]; refine wpAnyH_pure 1 (v := .pointer (some ⟨gT, 0, none⟩)) rfl (by kernel_rfl) (by kernel_rfl) (by kernel_rfl) (fun _ _ _ h => h) rfl (fun _ => rfl) (by assumption) ?_; simp only [Act.put, sS0, sS1, sS2]; refine wpAnyH_pure 2 (v := .pointer (some ⟨gT, 2, none⟩)) rfl (by kernel_rfl) (by kernel_rfl) (by kernel_rfl) (fun _ _ _ h => h) rfl (fun _ => by go_simp) (by assumption) ?_; simp only [Act.put, sS0, sS1, sS2]
        refine wpAnyH_cell 3 (v := .int .i64 (W : Int)) rfl rfl (fun w' h => by
          have e := HCW.out _ (XT.out.mv h (by have := ORD.out; omega))
          go_simp) (by kernel_rfl) (by kernel_rfl) (by kernel_rfl) (fun _ _ _ h => h) (by assumption) ?_
        simp only [Act.put, sS0, sS1, sS2]
        refine wpAnyH_load 4 69 (.tmp 5) rfl rfl rfl gN (0) rfl (nr (t.tp.rv 12) t.tp.D).cells _ (fun w' h => by
          have e := XN.out.mv h (by have := XN.out.lt; (try have := ORD.out); omega)
          exact e.all) Tryz.underlying69 rfl size_ratio (by kernel_rfl) (by kernel_rfl) (by kernel_rfl) (fun _ _ _ h => h) (by assumption) ?_
        simp only [Act.put, sS0, sS1, sS2]; refine wpAnyH_pure 5 (v := .pointer (some ⟨gL, W * 7, none⟩)) rfl (by kernel_rfl) (by kernel_rfl) (by kernel_rfl) (fun _ _ _ h => h) rfl (fun _ => by go_simp) (by assumption) ?_; simp only [Act.put, sS0, sS1, sS2]; refine wpAnyH_one 6 rfl (by kernel_rfl) rfl (fun K hK => ?_); refine wp_store_part 69 (.tmp 56) (.tmp 55) rfl gL (W * 7) (nr (t.tp.rv 12) t.tp.D).cells rfl rfl 70 (flatR (t.fA 12)) (flatR fun k => nr (t.tp.f k) t.tp.D) (XL.out.below HSW.out XL.out.lt) (by rw [flatR_size, RV.cells_size]; omega) HPU.out size_ratio (RV.cells_one _) ?_; rintro w133 zm zs zb; refine hK.out _ _ (Mv.trans (Mv.below HSW.out) zm) (fun hHeld => ?_); clear hK K; simp only [Act.put, sS0, sS1, sS2]; refine wpAnyH_done (by kernel_rfl) ?_ _; replace HB := HB.v hHeld (by have := HB.out.size; have := ORD.out; omega); replace XT := XT.w hHeld (by have := XT.out.lt; have := ORD.out; omega); replace XR := XR.w hHeld (by have := XR.out.lt; have := ORD.out; omega); replace XC := XC.w hHeld (by have := XC.out.lt; have := ORD.out; omega); replace XN := XN.w hHeld (by have := XN.out.lt; have := ORD.out; omega); replace XL : Sl (Blk w133 gL 70 (flatR fun k => nr (t.tp.f k) t.tp.D)) := ⟨zb⟩; clear zm zs zb HSW; (try clear hHeld)
        go_wp2_with ((with_reducible show wpList _ _ _ _ _ _); first
          | (refine wpList_load_whole rfl 70 (.tmp 4) rfl gL rfl 70 (flatR fun k => nr (t.tp.f k) t.tp.D) _ XL.out Tryz.underlying70 rfl (size_twelve _) ?_)
          | (refine wpList_store_whole rfl 70 (.tmp 2) (.tmp 57) rfl gR (flatR fun k => nr (t.tp.f k) t.tp.D) rfl rfl 70 (flatR fun _ => RVzero) XR.out (by rw [flatR_size, flatR_size]) (size_twelve _) (flatR_one _) ?_; rintro w134 zm zs zb; replace HB := HB.v zm (by have := ORD.out; omega); replace XT := XT.w zm (by have := XT.out.lt; have := ORD.out; omega); replace XC := XC.w zm (by have := XC.out.lt; have := ORD.out; omega); replace XL := XL.w zm (by have := XL.out.lt; have := ORD.out; omega); replace XN := XN.w zm (by have := XN.out.lt; have := ORD.out; omega); replace XR : Sl (Blk w134 gR 70 (flatR fun k => nr (t.tp.f k) t.tp.D)) := ⟨zb⟩; clear zm zs zb))
        refine bodyPost_ret (results_cell_row rfl _ _ gR _ _ _ _ rfl XR.out Tryz.underlying70 rfl (size_twelve _)) rfl ?_; exact ⟨rfl, HB.out⟩
end Go.Proofs.YtgmpipimancnhaaGreatDoor
namespace Go.Proofs.YtgmpipimancnhaaGreatDoor
set_option linter.unusedSimpArgs false
open Go.RowKit
set_option linter.unusedVariables false
attribute [-simp] Tryz.isAgg69 Tryz.isAgg70
noncomputable def TV.N (t : TV) (j : Nat) : RV := nr (t.tp.n (7 * j % 12)) t.tp.D
noncomputable def TV.nA (t : TV) (k j : Nat) : RV := if 7 * j % 12 < k then t.N j else RVzero
theorem TV.nA_zero (t : TV) : flatR (t.nA 0) = flatR (fun _ => RVzero) := flatR_ext fun i _ => by unfold TV.nA; rw [if_neg (by omega)]
theorem TV.nA_succ (t : TV) {k : Nat} (hk : k < 12) : flatR (fun j => if j = 7 * k % 12 then nr (t.tp.n k) t.tp.D else t.nA k j) = flatR (t.nA (k + 1)) := flatR_ext fun i hi => by
  show (if i = 7 * k % 12 then nr (t.tp.n k) t.tp.D else t.nA k i) = t.nA (k + 1) i; unfold TV.nA
  by_cases h0 : i = 7 * k % 12
  · have e : 7 * i % 12 = k := (by omega); rw [if_pos h0, if_pos (by omega)]; unfold TV.N; rw [e]
  · have e : 7 * i % 12 ≠ k := (by omega); rw [if_neg h0]
    by_cases h : 7 * i % 12 < k
    · rw [if_pos h, if_pos (by omega)]
    · rw [if_neg h, if_neg (by omega)]
theorem TV.nA_end (t : TV) : flatR (t.nA 12) = flatR t.N := flatR_ext fun i hi => by unfold TV.nA; rw [if_pos (by omega)]
set_option maxHeartbeats 6400000 in
set_option maxRecDepth 100000 in
theorem notes_any (t : TV) (hc : t.chk nameS = 0) (gT : Nat) (w : World) (hT : PrT w) (hB : Blk w gT 26 t.cells) :
    Calls Tryz.prog 36 #[.pointer (some ⟨gT, 0, none⟩)] w fun e w' => e = .returned (.agg (flatR t.N)) ∧ Below w.heap.size w w' := by
  have HB : Sl (Below w.heap.size w w) := ⟨Below.refl _ _⟩; have HT : Sl _ := ⟨hT⟩; have HTO : Sl _ := ⟨TV.tp_ok hc⟩; have HCK : Sl _ := ⟨hc⟩; have XT : Sl (Blk w gT 26 t.cells) := ⟨hB⟩; have ORD : Sl (gT < w.heap.size) := ⟨hB.lt⟩; have HIX : Sl _ := ⟨fun (W : World) (k : Nat) (hk : k < 12) => idxR (fun k => nr (t.tp.f k) t.tp.D) W hk⟩; clear hT hc hB; have HC1 : Sl (∀ W : World, PrT W → Calls Tryz.prog 58 #[.int .i64 1, .int .i64 1] W fun e w' => e = .returned (.agg (nr (t.tp.S 0) t.tp.D).cells) ∧ Below W.heap.size W w') := ⟨fun W h => whole_any _ _ _ W h HTO.out.one⟩; have HFI : Sl (∀ W : World, PrT W → Blk W gT 26 t.cells → Calls Tryz.prog 59 #[.pointer (some ⟨gT, 0, none⟩)] W fun e w' => e = .returned (.agg (flatR fun k => nr (t.tp.f k) t.tp.D)) ∧ Below W.heap.size W w') := ⟨fun W h h2 => fifths_any t HCK.out gT W h h2⟩; obtain ⟨FR, hfr⟩ : ∃ x, flatR (fun k => nr (t.tp.f k) t.tp.D) = x := ⟨_, rfl⟩; rw [hfr] at HIX HFI; clear hfr; go_enter Tryz.func36, Tryz.ntmps36
  go_wp2_with ((with_reducible show wpList _ _ _ _ _ _); first
    | (refine wpList_alloc_new 2 rfl rfl 70 rfl (flatR fun _ => RVzero) alloc_twelve ?_; rintro w1 gR zg zm zs zb; replace ORD : Sl (gT < w.heap.size ∧ w.heap.size ≤ gR) := ⟨by have := HB.out.size; have := ORD.out; have := XT.out.lt; omega⟩; replace HB := HB.v zm (by have := HB.out.size; have := ORD.out; omega); replace XT := XT.w zm (by have := XT.out.lt; have := ORD.out; omega); have XR : Sl (Blk w1 gR 70 (flatR fun _ => RVzero)) := ⟨zb⟩; clear zg zm zs zb)
    | (refine wpList_alloc_new 3 rfl rfl 70 rfl (flatR fun _ => RVzero) alloc_twelve ?_; rintro w2 gL zg zm zs zb; replace ORD : Sl (gT < w.heap.size ∧ w.heap.size ≤ gR ∧ gR < gL) := ⟨by have := HB.out.size; have := ORD.out; have := XT.out.lt; have := XR.out.lt; omega⟩; replace HB := HB.v zm (by have := HB.out.size; have := ORD.out; omega); replace XT := XT.w zm (by have := XT.out.lt; have := ORD.out; omega); replace XR := XR.w zm (by have := XR.out.lt; have := ORD.out; omega); have XL : Sl (Blk w2 gL 70 (flatR fun _ => RVzero)) := ⟨zb⟩; clear zg zm zs zb))
  refine (HC1.out _ (HT.out.below HB.out)).mono ?_; rintro e w3 ⟨rfl, hb⟩; replace HB := HB.y hb; replace XT := XT.x hb; replace XR := XR.x hb; replace XL := XL.x hb; clear hb
  go_wp2_with ((with_reducible show wpList _ _ _ _ _ _); first
    | (refine wpList_alloc_new 4 rfl rfl 69 rfl RVzero.cells alloc_ratio ?_; rintro w4 gN zg zm zs zb; replace ORD : Sl (gT < w.heap.size ∧ w.heap.size ≤ gR ∧ gR < gL ∧ gL < gN) := ⟨by have := HB.out.size; have := ORD.out; have := XT.out.lt; have := XR.out.lt; have := XL.out.lt; omega⟩; replace HB := HB.v zm (by have := HB.out.size; have := ORD.out; omega); replace XT := XT.w zm (by have := XT.out.lt; have := ORD.out; omega); replace XR := XR.w zm (by have := XR.out.lt; have := ORD.out; omega); replace XL := XL.w zm (by have := XL.out.lt; have := ORD.out; omega); have XN : Sl (Blk w4 gN 69 RVzero.cells) := ⟨zb⟩; clear zg zm zs zb)
    | (refine wpList_store_whole rfl 69 (.tmp 4) (.tmp 7) rfl gN (nr (t.tp.S 0) t.tp.D).cells rfl rfl 69 RVzero.cells XN.out rfl size_ratio (RV.cells_one _) ?_; rintro w5 zm zs zb; replace HB := HB.v zm (by have := ORD.out; omega); replace XT := XT.w zm (by have := XT.out.lt; have := ORD.out; omega); replace XR := XR.w zm (by have := XR.out.lt; have := ORD.out; omega); replace XL := XL.w zm (by have := XL.out.lt; have := ORD.out; omega); replace XN : Sl (Blk w5 gN 69 (nr (t.tp.S 0) t.tp.D).cells) := ⟨zb⟩; clear zm zs zb))
  refine (HFI.out _ (HT.out.below HB.out) XT.out).mono ?_; rintro e w6 ⟨rfl, hb⟩; replace HB := HB.y hb; replace XT := XT.x hb; replace XR := XR.x hb; replace XL := XL.x hb; replace XN := XN.x hb; clear hb; go_wp2_with fail
  go_loopw [10] (fun s10 wr => ∃ k : Nat, k ≤ 12 ∧ s10 = .int .i64 k ∧ Sl (Below w.heap.size w wr) ∧ Sl (Blk wr gR 70 (flatR fun _ => RVzero)) ∧ Sl (Blk wr gL 70 (flatR (t.nA k))) ∧ Sl (Blk wr gN 69 (nr (t.tp.S k) t.tp.D).cells)) (fun s10 _ => 12 - (RowKit.intOf s10).toNat)
  case atStart => exact ⟨0, by decide, rfl, HB, XR, ⟨by rw [TV.nA_zero]; exact XL.out⟩, XN⟩
  case round =>
    clear HB XT XR XL XN; obtain ⟨k, hk, rfl, HB, XR, XL, XN⟩ := hrel
    by_cases hk12 : k < 12
    · have hix := fun W : World => HIX.out W k hk12
      obtain ⟨q, hq⟩ : ∃ q, 7 * k % 12 = q := ⟨_, rfl⟩; have hq12 : q < 12 := (by omega); have hqi : (7 : Int) * (k : Int) % 12 = (q : Int) := (by omega); have hput : putA (flatR (t.nA k)) (q * 7) (nr (t.tp.n k) t.tp.D).cells.toList = flatR (t.nA (k + 1)) := (by rw [putR _ _ hq12, ← hq]; exact t.nA_succ hk12); have HPU : Sl _ := ⟨hput⟩; have hq0 : (0 : Int) ≤ (q : Int) := (by omega); have hq1 : (q : Int) < 12 := (by omega); clear hput hq; have HFO : Sl (∀ W : World, PrT W → Calls Tryz.prog 60 #[.agg (nr (t.tp.S k) t.tp.D).cells] W fun e w' => e = .returned (.agg (nr (t.tp.n k) t.tp.D).cells) ∧ Below W.heap.size W w') := ⟨fun W h => folded_nr (HTO.out.S_fits (by omega)) (HTO.out.n_fits (by omega)) W h⟩; have HTI : Sl (∀ W : World, Calls Tryz.prog 61 #[.agg (nr (t.tp.S k) t.tp.D).cells, .agg (nr (t.tp.f k) t.tp.D).cells] W fun e w' => e = .returned (.agg (nr (t.tp.S (k + 1)) t.tp.D).cells) ∧ Below W.heap.size W w') := ⟨fun W => ttimes_any _ _ _ W (HTO.out.note_join hk12)⟩
      go_wp2_with ((with_reducible show wpList _ _ _ _ _ _); first
        | (refine wpList_alloc_new 6 rfl rfl 69 rfl RVzero.cells alloc_ratio ?_; rintro w7 gP zg zm zs zb; replace ORD : Sl (gT < w.heap.size ∧ w.heap.size ≤ gR ∧ gR < gL ∧ gL < gN ∧ gN < gP) := ⟨by have := HB.out.size; have := ORD.out; have := XR.out.lt; have := XL.out.lt; have := XN.out.lt; omega⟩; replace HB := HB.v zm (by have := HB.out.size; have := ORD.out; omega); replace XR := XR.w zm (by have := XR.out.lt; have := ORD.out; omega); replace XL := XL.w zm (by have := XL.out.lt; have := ORD.out; omega); replace XN := XN.w zm (by have := XN.out.lt; have := ORD.out; omega); have XP : Sl (Blk w7 gP 69 RVzero.cells) := ⟨zb⟩; clear zg zm zs zb)
        | (refine wpList_store_whole rfl 69 (.tmp 6) (.tmp 13) rfl gP (nr (t.tp.f k) t.tp.D).cells rfl rfl 69 RVzero.cells XP.out rfl size_ratio (RV.cells_one _) ?_; rintro w8 zm zs zb; replace HB := HB.v zm (by have := ORD.out; omega); replace XR := XR.w zm (by have := XR.out.lt; have := ORD.out; omega); replace XL := XL.w zm (by have := XL.out.lt; have := ORD.out; omega); replace XN := XN.w zm (by have := XN.out.lt; have := ORD.out; omega); replace XP : Sl (Blk w8 gP 69 (nr (t.tp.f k) t.tp.D).cells) := ⟨zb⟩; clear zm zs zb)
        | (refine wpList_load_whole rfl 69 (.tmp 4) rfl gN rfl 69 (nr (t.tp.S k) t.tp.D).cells _ XN.out Tryz.underlying69 rfl size_ratio ?_))
      refine (HFO.out _ (HT.out.below HB.out)).mono ?_; rintro e w9 ⟨rfl, hb⟩; replace HB := HB.y hb; replace XR := XR.x hb; replace XL := XL.x hb; replace XN := XN.x hb; replace XP := XP.x hb; clear hb
      go_wp2_with ((with_reducible show wpList _ _ _ _ _ _); first
        | (refine wpList_store_part rfl 69 (.tmp 19) (.tmp 18) rfl gL (q * 7) (nr (t.tp.n k) t.tp.D).cells rfl rfl 70 (flatR (t.nA k)) (flatR (t.nA (k + 1))) XL.out (by rw [flatR_size, RV.cells_size]; omega) HPU.out size_ratio (RV.cells_one _) ?_; rintro w10 zm zs zb; replace HB := HB.v zm (by have := HB.out.size; have := ORD.out; omega); replace XR := XR.w zm (by have := XR.out.lt; have := ORD.out; omega); replace XN := XN.w zm (by have := XN.out.lt; have := ORD.out; omega); replace XP := XP.w zm (by have := XP.out.lt; have := ORD.out; omega); replace XL : Sl (Blk w10 gL 70 (flatR (t.nA (k + 1)))) := ⟨zb⟩; clear zm zs zb)
        | (refine wpList_load_whole rfl 69 (.tmp 4) rfl gN rfl 69 (nr (t.tp.S k) t.tp.D).cells _ XN.out Tryz.underlying69 rfl size_ratio ?_)
        | (refine wpList_load_whole rfl 69 (.tmp 6) rfl gP rfl 69 (nr (t.tp.f k) t.tp.D).cells _ XP.out Tryz.underlying69 rfl size_ratio ?_))
      refine (HTI.out _).mono ?_; rintro e w11 ⟨rfl, hb⟩; replace HB := HB.y hb; replace XR := XR.x hb; replace XL := XL.x hb; replace XN := XN.x hb; replace XP := XP.x hb; clear hb
      go_wp2_with ((with_reducible show wpList _ _ _ _ _ _); first
        | (refine wpList_store_whole rfl 69 (.tmp 4) (.tmp 22) rfl gN (nr (t.tp.S (k + 1)) t.tp.D).cells rfl rfl 69 (nr (t.tp.S k) t.tp.D).cells XN.out rfl size_ratio (RV.cells_one _) ?_; rintro w12 zm zs zb; replace HB := HB.v zm (by have := ORD.out; omega); replace XR := XR.w zm (by have := XR.out.lt; have := ORD.out; omega); replace XL := XL.w zm (by have := XL.out.lt; have := ORD.out; omega); replace XP := XP.w zm (by have := XP.out.lt; have := ORD.out; omega); replace XN : Sl (Blk w12 gN 69 (nr (t.tp.S (k + 1)) t.tp.D).cells) := ⟨zb⟩; clear zm zs zb))
      exact ⟨⟨k + 1, hk12, by go_num, HB, XR, XL, XN⟩, by simp [RowKit.intOf]; omega⟩
    · obtain rfl : k = 12 := (by omega); replace XL : Sl (Blk wr gL 70 (flatR t.N)) := ⟨by rw [← TV.nA_end]; exact XL.out⟩; clear hk12 hk
      go_wp2_with ((with_reducible show wpList _ _ _ _ _ _); first
        | (refine wpList_load_whole rfl 70 (.tmp 3) rfl gL rfl 70 (flatR t.N) _ XL.out Tryz.underlying70 rfl (size_twelve _) ?_)
        | (refine wpList_store_whole rfl 70 (.tmp 2) (.tmp 24) rfl gR (flatR t.N) rfl rfl 70 (flatR fun _ => RVzero) XR.out (by rw [flatR_size, flatR_size]) (size_twelve _) (flatR_one _) ?_; rintro w63 zm zs zb; replace HB := HB.v zm (by have := ORD.out; omega); replace XL := XL.w zm (by have := XL.out.lt; have := ORD.out; omega); replace XN := XN.w zm (by have := XN.out.lt; have := ORD.out; omega); replace XR : Sl (Blk w63 gR 70 (flatR t.N)) := ⟨zb⟩; clear zm zs zb))
      refine bodyPost_ret (results_cell_row rfl _ _ gR _ _ _ _ rfl XR.out Tryz.underlying70 rfl (size_twelve _)) rfl ?_; exact ⟨rfl, HB.out⟩
end Go.Proofs.YtgmpipimancnhaaGreatDoor
namespace Go.Proofs.YtgmpipimancnhaaGreatDoor
set_option linter.unusedSimpArgs false
open Go.RowKit
set_option linter.unusedVariables false
attribute [-simp] Tryz.isAgg69 Tryz.isAgg70 Tryz.isAgg26
theorem box_temper (t : TV) (w : World) : (Instr.box 26 (.agg t.cells)).run Tryz.prog w = .ok (.pointer (some ⟨w.heap.size, 0, none⟩)) (w.alloc (.cells t.cells 26)) := by kernel_rfl
theorem size_temper (t : TV) : (Tryz.prog.info? 26).map (·.size) = some t.cells.size := by kernel_rfl
theorem TV.cells_one (t : TV) : t.cells.all (·.oneCell') = true := by kernel_rfl
def clsB (z : Int) : Bool := decide (0 ≤ z) && decide (z < 12)
theorem clsB_true {z : Int} : clsB z = true ↔ 0 ≤ z ∧ z < 12 := by unfold clsB; simp
theorem class_any (z : Int) (w : World) : Calls Tryz.prog 39 #[.int .i64 z] w fun e w' => e = .returned (.bool (clsB z)) ∧ w = w' := by
  by_cases h : 0 ≤ z
  · have hb : decide ((0 : Int) ≤ z) = true := decide_eq_true h; have HC : Sl (clsB z = decide (z < 12)) := ⟨by unfold clsB; rw [hb, Bool.true_and]⟩; go_enter Tryz.func39, Tryz.ntmps39; go_wp2_with fail; go_ret; exact ⟨by rw [HC.out]; rfl, rfl⟩
  · have hb : decide ((0 : Int) ≤ z) = false := decide_eq_false h; have HC : Sl (clsB z = false) := ⟨by unfold clsB; rw [hb, Bool.false_and]⟩; go_enter Tryz.func39, Tryz.ntmps39; go_wp2_with fail; go_ret; exact ⟨by rw [HC.out]; rfl, rfl⟩
noncomputable def TV.B (t : TV) (a b : Nat) : RV := nr (t.tp.b (7 * a % 12) (7 * (b % 12) % 12)) t.tp.D
set_option maxHeartbeats 6400000 in
set_option maxRecDepth 100000 in
theorem between_any (t : TV) (hc : t.chk nameS = 0) (gL : Nat) (a b : Nat) (ha : a < 12) (hb : b < 24) (w : World) (hT : PrT w) (hB : Blk w gL 70 (flatR t.N)) :
    Calls Tryz.prog 65 #[.pointer (some ⟨gL, 0, none⟩), .int .i64 a, .int .i64 b] w fun e w' => e = .returned (.agg (t.B a b).cells) ∧ Below w.heap.size w w' := by
  have HB : Sl (Below w.heap.size w w) := ⟨Below.refl _ _⟩; have HT : Sl _ := ⟨hT⟩; have HTO : Sl _ := ⟨TV.tp_ok hc⟩; have XL : Sl (Blk w gL 70 (flatR t.N)) := ⟨hB⟩; have ORD : Sl (gL < w.heap.size) := ⟨hB.lt⟩; clear hT hc hB; obtain ⟨q, hq⟩ : ∃ q, b % 12 = q := ⟨_, rfl⟩; have hq12 : q < 12 := (by omega); have hq0 : (0 : Int) ≤ (q : Int) := (by omega); have hq1 : (q : Int) < 12 := (by omega); have ha0 : (0 : Int) ≤ (a : Int) := (by omega); have ha1 : (a : Int) < 12 := (by omega); have HOV : Sl (∀ W : World, Calls Tryz.prog 64 #[.agg (t.N q).cells, .agg (t.N a).cells] W fun e w' => e = .returned (.agg (nr (t.tp.y (7 * a % 12) (7 * q % 12)) t.tp.D).cells) ∧ Below W.heap.size W w') := ⟨fun W => tover_any _ _ _ W (HTO.out.way_join (by omega) (by omega))⟩
  have HFO : Sl (∀ W : World, PrT W → Calls Tryz.prog 60 #[.agg (nr (t.tp.y (7 * a % 12) (7 * q % 12)) t.tp.D).cells] W fun e w' => e = .returned (.agg (t.B a b).cells) ∧ Below W.heap.size W w') := ⟨fun W h => by
    have := folded_nr (HTO.out.y_fits (a := 7 * a % 12) (b := 7 * q % 12) (by omega) (by omega)) (HTO.out.b_fits (by omega) (by omega)) W h; unfold TV.B; rw [hq]
    exact this⟩
  have hqi : (b : Int) % 12 = (q : Int) := (by omega); have hqt : (b : Int).tmod 12 = (q : Int) := (by rw [Int.tmod_eq_emod_of_nonneg (by omega)]; exact hqi); have hb0 : (0 : Int) ≤ (b : Int) := (by omega); clear hq; go_enter Tryz.func65, Tryz.ntmps65
  go_wp2_with ((with_reducible show wpList _ _ _ _ _ _); first
    | (refine wpList_alloc_new 6 rfl rfl 69 rfl RVzero.cells alloc_ratio ?_; rintro w1 gR zg zm zs zb; replace ORD : Sl (gL < w.heap.size ∧ w.heap.size ≤ gR) := ⟨by have := HB.out.size; have := ORD.out; have := XL.out.lt; omega⟩; replace HB := HB.v zm (by have := HB.out.size; have := ORD.out; omega); replace XL := XL.w zm (by have := XL.out.lt; have := ORD.out; omega); have XR : Sl (Blk w1 gR 69 RVzero.cells) := ⟨zb⟩; clear zg zm zs zb))
  have hm : Mv gR w1 w1.drew := Mv.drew _ _; have hs : RowKit.Below w1.heap.size w1 w1.drew := below_drewN (Below.refl _ _) 1; have HSW : Sl _ := ⟨hs⟩; clear hs; refine wp_region_held_drew (S := fun w' => Mv gR w1 w') (by kernel_rfl) hm (fun hHeld => ?_); clear hm; refine wpAnyH_pure 0 (v := .pointer (some ⟨gL, 0, none⟩)) rfl (by kernel_rfl) (by kernel_rfl) (by kernel_rfl) (fun _ _ _ h => h) rfl (fun _ => rfl) (by assumption) ?_; simp only [Act.put, sS0, sS1, sS2]; refine wpAnyH_pure 1 (v := .int .i64 (b : Int)) rfl (by kernel_rfl) (by kernel_rfl) (by kernel_rfl) (fun _ _ _ h => h) rfl (fun _ => rfl) (by assumption) ?_; simp only [Act.put, sS0, sS1, sS2]; refine wpAnyH_pure 2 (v := .int .i64 (q : Int)) rfl (by kernel_rfl) (by kernel_rfl) (by kernel_rfl) (fun _ _ _ h => h) rfl (fun _ => by go_simp) (by assumption) ?_; simp only [Act.put, sS0, sS1, sS2]; refine wpAnyH_pure 3 (v := .pointer (some ⟨gL, 0, none⟩)) rfl (by kernel_rfl) (by kernel_rfl) (by kernel_rfl) (fun _ _ _ h => h) rfl (fun _ => rfl) (by assumption) ?_; simp only [Act.put, sS0, sS1, sS2]; refine wpAnyH_pure 4 (v := .pointer (some ⟨gL, q * 7, none⟩)) rfl (by kernel_rfl) (by kernel_rfl) (by kernel_rfl) (fun _ _ _ h => h) rfl (fun _ => by go_simp) (by assumption) ?_; simp only [Act.put, sS0, sS1, sS2]
  refine wpAnyH_load 5 69 (.tmp 11) rfl rfl rfl gL (q * 7) rfl (t.N q).cells _ (fun w' h => by
    have e := XL.out.mv h (by have := ORD.out; omega)
    exact e.atR hq12) Tryz.underlying69 rfl size_ratio (by kernel_rfl) (by kernel_rfl) (by kernel_rfl) (fun _ _ _ h => h) (by assumption) ?_
  simp only [Act.put, sS0, sS1, sS2]; refine wpAnyH_pure 6 (v := .pointer (some ⟨gL, 0, none⟩)) rfl (by kernel_rfl) (by kernel_rfl) (by kernel_rfl) (fun _ _ _ h => h) rfl (fun _ => rfl) (by assumption) ?_; simp only [Act.put, sS0, sS1, sS2]; refine wpAnyH_pure 7 (v := .int .i64 (a : Int)) rfl (by kernel_rfl) (by kernel_rfl) (by kernel_rfl) (fun _ _ _ h => h) rfl (fun _ => rfl) (by assumption) ?_; simp only [Act.put, sS0, sS1, sS2]; refine wpAnyH_pure 8 (v := .pointer (some ⟨gL, 0, none⟩)) rfl (by kernel_rfl) (by kernel_rfl) (by kernel_rfl) (fun _ _ _ h => h) rfl (fun _ => rfl) (by assumption) ?_; simp only [Act.put, sS0, sS1, sS2]; refine wpAnyH_pure 9 (v := .pointer (some ⟨gL, a * 7, none⟩)) rfl (by kernel_rfl) (by kernel_rfl) (by kernel_rfl) (fun _ _ _ h => h) rfl (fun _ => by go_simp) (by assumption) ?_; simp only [Act.put, sS0, sS1, sS2]
  refine wpAnyH_load 10 69 (.tmp 16) rfl rfl rfl gL (a * 7) rfl (t.N a).cells _ (fun w' h => by
    have e := XL.out.mv h (by have := ORD.out; omega)
    exact e.atR ha) Tryz.underlying69 rfl size_ratio (by kernel_rfl) (by kernel_rfl) (by kernel_rfl) (fun _ _ _ h => h) (by assumption) ?_
  simp only [Act.put, sS0, sS1, sS2]; refine wpAnyH_one 11 rfl (by kernel_rfl) rfl (fun K hK => ?_); go_simp; go_at_call 64
  (with_reducible refine (HOV.out _).mono ?_)
  rintro e z2 ⟨rfl, hb⟩; replace HSW := HSW.y hb; refine hK.out _ _ (Mv.below HSW.out) (fun hHeld => ?_); clear hK K hb
  (try simp only [Act.put, sS0, sS1, sS2])
  refine wpAnyH_one 12 rfl (by kernel_rfl) rfl (fun K hK => ?_); go_simp; go_at_call 60
  (with_reducible refine (HFO.out _ (HT.out.below (HB.out.trans (HSW.out.mono HB.out.size)))).mono ?_)
  rintro e z3 ⟨rfl, hb⟩; replace HSW := HSW.y hb; refine hK.out _ _ (Mv.below HSW.out) (fun hHeld => ?_); clear hK K hb
  (try simp only [Act.put, sS0, sS1, sS2])
  refine wpAnyH_one 13 rfl (by kernel_rfl) rfl (fun K hK => ?_); refine wp_store_part 69 (.tmp 6) (.tmp 19) rfl gR (0) (t.B a b).cells rfl rfl 69 RVzero.cells (t.B a b).cells (XR.out.below HSW.out XR.out.lt) (by rw [RV.cells_size, RV.cells_size]; omega) (putA_all _ _ rfl) size_ratio (RV.cells_one _) ?_; rintro w4 zm zs zb; refine hK.out _ _ (Mv.trans (Mv.below HSW.out) zm) (fun hHeld => ?_); clear hK K; simp only [Act.put, sS0, sS1, sS2]; refine wpAnyH_done (by kernel_rfl) ?_ _; replace HB := HB.v hHeld (by have := HB.out.size; have := ORD.out; omega); replace XL := XL.w hHeld (by have := XL.out.lt; have := ORD.out; omega); replace XR : Sl (Blk w4 gR 69 (t.B a b).cells) := ⟨zb⟩; clear zm zs zb HSW; (try clear hHeld); go_wp2_with fail; refine bodyPost_ret (results_cell_row rfl _ _ gR _ _ _ _ rfl XR.out Tryz.underlying69 rfl size_ratio) rfl ?_; exact ⟨rfl, HB.out⟩
noncomputable def TV.X (t : TV) (p : Nat → Int) (a b : Nat) : Nat → Int := t.tp.x p (7 * a % 12) (7 * (b % 12) % 12)
noncomputable def TV.xc (t : TV) (p : Nat → Int) (a b : Nat) : Int := cmN (t.X p a b) t.tp.D
set_option maxHeartbeats 6400000 in
set_option maxRecDepth 100000 in
theorem third_any (t : TV) (hc : t.chk nameS = 0) (gL : Nat) (a : Nat) (ha : a < 12) (w : World) (hT : PrT w) (hB : Blk w gL 70 (flatR t.N)) :
    Calls Tryz.prog 40 #[.pointer (some ⟨gL, 0, none⟩), .int .i64 a] w fun e w' => e = .returned (.int .i64 (t.xc b54 a (a + 4))) ∧ Below w.heap.size w w' := by
  have HB : Sl (Below w.heap.size w w) := ⟨Below.refl _ _⟩; have HT : Sl _ := ⟨hT⟩; have HTO : Sl _ := ⟨TV.tp_ok hc⟩; have HCK : Sl _ := ⟨hc⟩; have XL : Sl (Blk w gL 70 (flatR t.N)) := ⟨hB⟩; clear hT hc hB
  have HBE : Sl (∀ W : World, PrT W → Blk W gL 70 (flatR t.N) → Calls Tryz.prog 65 #[.pointer (some ⟨gL, 0, none⟩), .int .i64 a, .int .i64 ((a : Int) + 4)] W fun e w' => e = .returned (.agg (t.B a (a + 4)).cells) ∧ Below W.heap.size W w') := ⟨fun W h h2 => by
    have := between_any t HCK.out gL a (a + 4) ha (by omega) W h h2; rw [show ((a + 4 : Nat) : Int) = (a : Int) + 4 by omega] at this
    exact this⟩
  have HWH : Sl (∀ W : World, PrT W → Calls Tryz.prog 58 #[.int .i64 5, .int .i64 4] W fun e w' => e = .returned (.agg (nr (fun j => b54 j * t.tp.D) t.tp.D).cells) ∧ Below W.heap.size W w') := ⟨fun W h => whole_any _ _ _ W h (thi_up HTO.out.hD.1)⟩; have HOV : Sl (∀ W : World, Calls Tryz.prog 64 #[.agg (t.B a (a + 4)).cells, .agg (nr (fun j => b54 j * t.tp.D) t.tp.D).cells] W fun e w' => e = .returned (.agg (nr (t.X b54 a (a + 4)) t.tp.D).cells) ∧ Below W.heap.size W w') := ⟨fun W => tover_any _ _ _ W (HTO.out.x_join pure54 (by omega) (by omega))⟩
  have HCE : Sl (∀ W : World, PrT W → Calls Tryz.prog 37 #[.agg (nr (t.X b54 a (a + 4)) t.tp.D).cells] W fun e w' => e = .returned (.int .i64 (t.xc b54 a (a + 4))) ∧ Below W.heap.size W w') := ⟨fun W h => by
    obtain ⟨h1, h2⟩ := HTO.out.x_rng pure54 (a := 7 * a % 12) (b := 7 * ((a + 4) % 12) % 12) (by omega) (by omega)
    exact tcents_nr (HTO.out.x_fits pure54 (by omega) (by omega)) h1 h2 W h⟩
  have ha0 : (0 : Int) ≤ (a : Int) := (by omega); have ha1 : (a : Int) < 12 := (by omega); go_enter Tryz.func40, Tryz.ntmps40; go_wp2_with fail; refine (HBE.out _ (HT.out.below HB.out) XL.out).mono ?_; rintro e w1 ⟨rfl, hb⟩; replace HB := HB.y hb; replace XL := XL.x hb; clear hb; go_wp2_with fail; refine (HWH.out _ (HT.out.below HB.out)).mono ?_; rintro e w2 ⟨rfl, hb⟩; replace HB := HB.y hb; replace XL := XL.x hb; clear hb; go_wp2_with fail; refine (HOV.out _).mono ?_; rintro e w3 ⟨rfl, hb⟩; replace HB := HB.y hb; replace XL := XL.x hb; clear hb; go_wp2_with fail; refine (HCE.out _ (HT.out.below HB.out)).mono ?_; rintro e w4 ⟨rfl, hb⟩; replace HB := HB.y hb; replace XL := XL.x hb; clear hb; go_wp2_with fail; go_ret; exact ⟨rfl, HB.out⟩
set_option maxHeartbeats 6400000 in
set_option maxRecDepth 100000 in
theorem fifth_any (t : TV) (hc : t.chk nameS = 0) (gL : Nat) (a : Nat) (ha : a < 12) (w : World) (hT : PrT w) (hB : Blk w gL 70 (flatR t.N)) :
    Calls Tryz.prog 41 #[.pointer (some ⟨gL, 0, none⟩), .int .i64 a] w fun e w' => e = .returned (.int .i64 (t.xc b32 a (a + 7))) ∧ Below w.heap.size w w' := by
  have HB : Sl (Below w.heap.size w w) := ⟨Below.refl _ _⟩; have HT : Sl _ := ⟨hT⟩; have HTO : Sl _ := ⟨TV.tp_ok hc⟩; have HCK : Sl _ := ⟨hc⟩; have XL : Sl (Blk w gL 70 (flatR t.N)) := ⟨hB⟩; clear hT hc hB
  have HBE : Sl (∀ W : World, PrT W → Blk W gL 70 (flatR t.N) → Calls Tryz.prog 65 #[.pointer (some ⟨gL, 0, none⟩), .int .i64 a, .int .i64 ((a : Int) + 7)] W fun e w' => e = .returned (.agg (t.B a (a + 7)).cells) ∧ Below W.heap.size W w') := ⟨fun W h h2 => by
    have := between_any t HCK.out gL a (a + 7) ha (by omega) W h h2; rw [show ((a + 7 : Nat) : Int) = (a : Int) + 7 by omega] at this
    exact this⟩
  have HWH : Sl (∀ W : World, PrT W → Calls Tryz.prog 58 #[.int .i64 3, .int .i64 2] W fun e w' => e = .returned (.agg (nr (fun j => b32 j * t.tp.D) t.tp.D).cells) ∧ Below W.heap.size W w') := ⟨fun W h => whole_any _ _ _ W h (fif_up HTO.out.hD.1)⟩; have HOV : Sl (∀ W : World, Calls Tryz.prog 64 #[.agg (t.B a (a + 7)).cells, .agg (nr (fun j => b32 j * t.tp.D) t.tp.D).cells] W fun e w' => e = .returned (.agg (nr (t.X b32 a (a + 7)) t.tp.D).cells) ∧ Below W.heap.size W w') := ⟨fun W => tover_any _ _ _ W (HTO.out.x_join pure32 (by omega) (by omega))⟩
  have HCE : Sl (∀ W : World, PrT W → Calls Tryz.prog 37 #[.agg (nr (t.X b32 a (a + 7)) t.tp.D).cells] W fun e w' => e = .returned (.int .i64 (t.xc b32 a (a + 7))) ∧ Below W.heap.size W w') := ⟨fun W h => by
    obtain ⟨h1, h2⟩ := HTO.out.x_rng pure32 (a := 7 * a % 12) (b := 7 * ((a + 7) % 12) % 12) (by omega) (by omega)
    exact tcents_nr (HTO.out.x_fits pure32 (by omega) (by omega)) h1 h2 W h⟩
  have ha0 : (0 : Int) ≤ (a : Int) := (by omega); have ha1 : (a : Int) < 12 := (by omega); go_enter Tryz.func41, Tryz.ntmps41; go_wp2_with fail; refine (HBE.out _ (HT.out.below HB.out) XL.out).mono ?_; rintro e w1 ⟨rfl, hb⟩; replace HB := HB.y hb; replace XL := XL.x hb; clear hb; go_wp2_with fail; refine (HWH.out _ (HT.out.below HB.out)).mono ?_; rintro e w2 ⟨rfl, hb⟩; replace HB := HB.y hb; replace XL := XL.x hb; clear hb; go_wp2_with fail; refine (HOV.out _).mono ?_; rintro e w3 ⟨rfl, hb⟩; replace HB := HB.y hb; replace XL := XL.x hb; clear hb; go_wp2_with fail; refine (HCE.out _ (HT.out.below HB.out)).mono ?_; rintro e w4 ⟨rfl, hb⟩; replace HB := HB.y hb; replace XL := XL.x hb; clear hb; go_wp2_with fail; go_ret; exact ⟨rfl, HB.out⟩
end Go.Proofs.YtgmpipimancnhaaGreatDoor
namespace Go.Proofs.YtgmpipimancnhaaGreatDoor
set_option linter.unusedSimpArgs false
open Go.RowKit
set_option linter.unusedVariables false
attribute [-simp] Tryz.isAgg69 Tryz.isAgg70 Tryz.isAgg26
noncomputable def TV.tri (t : TV) (a : Int) : Int × Int × Int := if t.chk nameS = 0 then (if clsB a = true then (t.xc b54 a.toNat (a.toNat + 4), t.xc b32 a.toNat (a.toNat + 7), 0) else (0, 0, 2)) else (0, 0, t.chk nameS)
set_option maxHeartbeats 6400000 in
set_option maxRecDepth 100000 in
theorem ttriad_any (t : TV) (hs : t.nm.size ≤ maxLen) (a : Int) (w : World) (hT : PrT w) :
    Calls Tryz.prog 23 #[.agg t.cells, .int .i64 a] w fun e w' => e = .returned (.tuple #[.int .i64 (t.tri a).1, .int .i64 (t.tri a).2.1, .int .i64 (t.tri a).2.2]) ∧ Below w.heap.size w w' := by
  have HB : Sl (Below w.heap.size w w) := ⟨Below.refl _ _⟩; have HT : Sl _ := ⟨hT⟩; have HCK : Sl (∀ W : World, Calls Tryz.prog 9 #[.agg t.cells] W fun e w' => e = .returned (.int .i64 (t.chk nameS)) ∧ Below W.heap.size W w') := ⟨fun W => tcheck_any t W hs⟩; clear hT hs; obtain ⟨c, hc⟩ : ∃ c, t.chk nameS = c := ⟨_, rfl⟩; rw [hc] at HCK; have HC : Sl _ := ⟨hc⟩; clear hc; obtain ⟨sr, hsr⟩ : ∃ s, t.tri a = s := ⟨_, rfl⟩; rw [hsr]; have HSR : Sl _ := ⟨hsr⟩; clear hsr; have HCA : Sl (∀ W : World, Calls Tryz.prog 39 #[.int .i64 a] W fun e w' => e = .returned (.bool (clsB a)) ∧ W = w') := ⟨fun W => class_any a W⟩; obtain ⟨ca, hca⟩ : ∃ x, clsB a = x := ⟨_, rfl⟩; rw [hca] at HCA; have HAB : Sl _ := ⟨hca⟩; clear hca; go_enter Tryz.func23, Tryz.ntmps23
  go_wp2_with ((with_reducible show wpList _ _ _ _ _ _); first
    | (refine wpList_box_new 2 rfl rfl 26 (.tmp 0) rfl t.cells rfl (box_temper t) ?_; rintro w1 gT zg zm zs zb; have ORD : Sl (w.heap.size ≤ gT) := ⟨by have := HB.out.size; omega⟩; replace HB := HB.v zm (by have := HB.out.size; have := ORD.out; omega); have XT : Sl (Blk w1 gT 26 t.cells) := ⟨zb⟩; clear zg zm zs zb)
    | (refine wpList_load_whole rfl 26 (.tmp 2) rfl gT rfl 26 t.cells _ XT.out Tryz.underlying26 rfl (size_temper t) ?_))
  refine (HCK.out _).mono ?_; rintro e w2 ⟨rfl, hb⟩; replace HB := HB.y hb; replace XT := XT.x hb; clear hb
  by_cases h0 : c = 0
  · subst h0
    cases ca
    · have HV : Sl (sr = (0, 0, 2)) := ⟨by rw [← HSR.out]; unfold TV.tri; rw [if_pos HC.out, HAB.out, if_neg (by simp)]⟩; go_wp2_with fail; refine (HCA.out _).mono ?_; rintro e wx ⟨rfl, rfl⟩; go_wp2_with fail
      go_ret3
      exact ⟨by rw [HV.out]; rfl, HB.out⟩
    · have hab := HAB.out; have h1 := clsB_true.1 hab; obtain ⟨x, rfl⟩ : ∃ x : Nat, a = (x : Int) := ⟨a.toNat, by omega⟩; have hx : x < 12 := (by omega); have HV : Sl (sr = (t.xc b54 x (x + 4), t.xc b32 x (x + 7), 0)) := ⟨by rw [← HSR.out]; unfold TV.tri; rw [if_pos HC.out, hab, if_pos rfl]; rfl⟩; have HTH : Sl (∀ (g : Nat) (W : World), PrT W → Blk W g 70 (flatR t.N) → Calls Tryz.prog 40 #[.pointer (some ⟨g, 0, none⟩), .int .i64 (x : Int)] W fun e w' => e = .returned (.int .i64 (t.xc b54 x (x + 4))) ∧ Below W.heap.size W w') := ⟨fun g W h hB => third_any t HC.out g x hx W h hB⟩; have HFI : Sl (∀ (g : Nat) (W : World), PrT W → Blk W g 70 (flatR t.N) → Calls Tryz.prog 41 #[.pointer (some ⟨g, 0, none⟩), .int .i64 (x : Int)] W fun e w' => e = .returned (.int .i64 (t.xc b32 x (x + 7))) ∧ Below W.heap.size W w') := ⟨fun g W h hB => fifth_any t HC.out g x hx W h hB⟩; have HNO : Sl (∀ (W : World), PrT W → Blk W gT 26 t.cells → Calls Tryz.prog 36 #[.pointer (some ⟨gT, 0, none⟩)] W fun e w' => e = .returned (.agg (flatR t.N)) ∧ Below W.heap.size W w') := ⟨fun W h hB => notes_any t HC.out gT W h hB⟩; clear hab h1 hx; go_wp2_with fail; refine (HCA.out _).mono ?_; rintro e wx ⟨rfl, rfl⟩; go_wp2_with fail; refine (HNO.out _ (HT.out.below HB.out) XT.out).mono ?_; rintro e w13 ⟨rfl, hb⟩; replace HB := HB.y hb; replace XT := XT.x hb; clear hb
      go_wp2_with ((with_reducible show wpList _ _ _ _ _ _); first
        | (refine wpList_alloc_new 8 rfl rfl 70 rfl (flatR fun _ => RVzero) alloc_twelve ?_; rintro w14 gL zg zm zs zb; replace ORD : Sl (w.heap.size ≤ gT ∧ gT < gL) := ⟨by have := HB.out.size; have := ORD.out; have := XT.out.lt; omega⟩; replace HB := HB.v zm (by have := HB.out.size; have := ORD.out; omega); replace XT := XT.w zm (by have := XT.out.lt; have := ORD.out; omega); have XL : Sl (Blk w14 gL 70 (flatR fun _ => RVzero)) := ⟨zb⟩; clear zg zm zs zb)
        | (refine wpList_store_whole rfl 70 (.tmp 8) (.tmp 17) rfl gL (flatR t.N) rfl rfl 70 (flatR fun _ => RVzero) XL.out (by rw [flatR_size, flatR_size]) (size_twelve _) (flatR_one _) ?_; rintro w15 zm zs zb; replace HB := HB.v zm (by have := ORD.out; omega); replace XT := XT.w zm (by have := XT.out.lt; have := ORD.out; omega); replace XL : Sl (Blk w15 gL 70 (flatR t.N)) := ⟨zb⟩; clear zm zs zb))
      refine (HTH.out _ _ (HT.out.below HB.out) XL.out).mono ?_; rintro e w16 ⟨rfl, hb⟩; replace HB := HB.y hb; replace XT := XT.x hb; replace XL := XL.x hb; clear hb; go_wp2_with fail; refine (HFI.out _ _ (HT.out.below HB.out) XL.out).mono ?_; rintro e w17 ⟨rfl, hb⟩; replace HB := HB.y hb; replace XT := XT.x hb; replace XL := XL.x hb; clear hb; go_wp2_with fail
      go_ret3
      exact ⟨by rw [HV.out]; rfl, HB.out⟩
  · have hz : ((c : Int) != 0) = true := (by rw [bne_iff_ne]; exact h0); have HV : Sl (sr = (0, 0, c)) := ⟨by rw [← HSR.out]; unfold TV.tri; rw [if_neg (by rw [HC.out]; exact h0), HC.out]⟩; clear h0; go_wp2_with fail
    go_ret3
    exact ⟨by rw [HV.out]; rfl, HB.out⟩
end Go.Proofs.YtgmpipimancnhaaGreatDoor
namespace Go.Proofs.YtgmpipimancnhaaGreatDoor
set_option linter.unusedSimpArgs false
open Go.RowKit
set_option linter.unusedVariables false
attribute [-simp] Tryz.isAgg69 Tryz.isAgg70 Tryz.isAgg26
theorem reads_i1 (W : World) (T : TypeId) (m : Int) : Reads (W.alloc (.cells #[.int .i64 m] T)) (W.heap.size + 1) 1 (some ⟨W.heap.size, 0, none⟩) 1 [.int .i64 m] := by
  refine ⟨rfl, fun _ => ⟨_, rfl, Nat.lt_succ_self _, fun j u hu => ?_⟩⟩; have hb := Blk.new W T #[.int .i64 m]
  have e : (⟨W.heap.size, 0, none⟩ : Addr).add j = ⟨W.heap.size, j, none⟩ := by
    unfold Addr.add
    by_cases h : j = 0
    · subst h; simp
    · simp [h]
  rw [e, hb.cell]; simpa using hu
theorem below_grown2 {w w1 w' : World} {B : Nat} {ob : Obj} {v : Value} {e : TypeId} {n : Nat} {xs : List Value} (hB : Below B w w1) (hs : B ≤ w1.heap.size) (ho : w1.ownsRow B e 1 v n xs) (hg : (w1.alloc ob).grownBy w' v.ownBlock) : Below B w w' :=
  (hB.alloc hs ob).grown hg (by simp; omega) (fun k hk => (ho.lt k hk).1)
def ints (l : List Int) : List Value := l.map (.int .i64)
theorem ints_snoc (l : List Int) (m : Int) : ints (l ++ [m]) = ints l ++ [.int .i64 m] := by unfold ints; rw [List.map_append]; rfl
noncomputable def TV.cl (t : TV) (k : Nat) : List Int := (List.range k).map fun j => cmN (t.tp.n (7 * j % 12)) t.tp.D
theorem TV.cl_succ (t : TV) (k : Nat) : t.cl (k + 1) = t.cl k ++ [cmN (t.tp.n (7 * k % 12)) t.tp.D] := by unfold TV.cl; rw [List.range_succ, List.map_append]; rfl
def CentsT (w w' : World) (e : Ending) (t : TV) : Prop :=
  (t.chk nameS ≠ 0 → e = .returned (.tuple #[.slice none 0 0, .int .i64 (t.chk nameS)])) ∧
  (t.chk nameS = 0 → ∃ v, e = .returned (.tuple #[v, .int .i64 0]) ∧ w'.ownsRow w.heap.size 2 1 v 12 (ints (t.cl 12)))
set_option maxHeartbeats 6400000 in
set_option maxRecDepth 100000 in
theorem tCents_any (t : TV) (hs : t.nm.size ≤ maxLen) (w : World) (hT : PrT w) :
    Calls Tryz.prog 21 #[.agg t.cells] w fun e w' => CentsT w w' e t ∧ Below w.heap.size w w' := by
  have HB : Sl (Below w.heap.size w w) := ⟨Below.refl _ _⟩; have HT : Sl _ := ⟨hT⟩; have HCK : Sl (∀ W : World, Calls Tryz.prog 9 #[.agg t.cells] W fun e w' => e = .returned (.int .i64 (t.chk nameS)) ∧ Below W.heap.size W w') := ⟨fun W => tcheck_any t W hs⟩; clear hT hs; obtain ⟨c, hc⟩ : ∃ c, t.chk nameS = c := ⟨_, rfl⟩; rw [hc] at HCK; have HC : Sl _ := ⟨hc⟩; clear hc; obtain ⟨i0, hi0, hz0, hz1, hz2⟩ := info_i64; have HI : Sl _ := ⟨And.intro hi0 (And.intro hz0 (And.intro hz1 hz2))⟩; clear hi0 hz0 hz1 hz2; go_enter Tryz.func21, Tryz.ntmps21
  go_wp2_with ((with_reducible show wpList _ _ _ _ _ _); first
    | (refine wpList_box_new 1 rfl rfl 26 (.tmp 0) rfl t.cells rfl (box_temper t) ?_; rintro w1 gT zg zm zs zb; have ORD : Sl (w.heap.size ≤ gT) := ⟨by have := HB.out.size; omega⟩; replace HB := HB.v zm (by have := HB.out.size; have := ORD.out; omega); have XT : Sl (Blk w1 gT 26 t.cells) := ⟨zb⟩; clear zg zm zs zb)
    | (refine wpList_load_whole rfl 26 (.tmp 1) rfl gT rfl 26 t.cells _ XT.out Tryz.underlying26 rfl (size_temper t) ?_))
  refine (HCK.out _).mono ?_; rintro e w2 ⟨rfl, hb⟩; replace HB := HB.y hb; replace XT := XT.x hb; clear hb
  by_cases h0 : c = 0
  · subst h0; have HTO : Sl _ := ⟨TV.tp_ok HC.out⟩; have HIX : Sl _ := ⟨fun (W : World) (k : Nat) (hk : k < 12) => idxR t.N W hk⟩; have HNO : Sl (∀ (W : World), PrT W → Blk W gT 26 t.cells → Calls Tryz.prog 36 #[.pointer (some ⟨gT, 0, none⟩)] W fun e w' => e = .returned (.agg (flatR t.N)) ∧ Below W.heap.size W w') := ⟨fun W h hB => notes_any t HC.out gT W h hB⟩; obtain ⟨FR, hfr⟩ : ∃ x, flatR t.N = x := ⟨_, rfl⟩; rw [hfr] at HIX HNO; clear hfr; go_wp2_with fail; refine (HNO.out _ (HT.out.below HB.out) XT.out).mono ?_; rintro e w3 ⟨rfl, hb⟩; replace HB := HB.y hb; replace XT := XT.x hb; clear hb; go_wp2_with fail
    go_loopw [5, 14] (fun s5 s14 wr => ∃ (k : Nat) (v5 : Value), k ≤ 12 ∧ s14 = .int .i64 k ∧ v5 = s5 ∧ Sl (Below w.heap.size w wr) ∧ Sl (wr.ownsRow w.heap.size 2 1 v5 k (ints (t.cl k)))) (fun _ s14 _ => 12 - (RowKit.intOf s14).toNat)
    case atStart => exact ⟨0, _, by decide, rfl, rfl, HB, ⟨World.ownsRow_nil _ _ _ _⟩⟩
    case round =>
      clear HB XT; obtain ⟨k, v5, hk, rfl, rfl, HB, XO⟩ := hrel
      by_cases hk12 : k < 12
      · have hix := fun W : World => HIX.out W k hk12
        obtain ⟨m, hm⟩ : ∃ m, cmN (t.tp.n (7 * k % 12)) t.tp.D = m := ⟨_, rfl⟩; have HM : Sl _ := ⟨hm⟩
        have HCE : Sl (∀ W : World, PrT W → Calls Tryz.prog 37 #[.agg (t.N k).cells] W fun e w' => e = .returned (.int .i64 m) ∧ Below W.heap.size W w') := ⟨fun W h => by
          have hD := HTO.out.hD; obtain ⟨h1, h2⟩ := HTO.out.n_range (k := 7 * k % 12) (by omega); have := tcents_nr (HTO.out.n_fits (k := 7 * k % 12) (by omega)) (h1.mono (by omega)) h2 W h; rw [hm] at this
          exact this⟩
        clear hm; have ORD : Sl True := ⟨trivial⟩
        go_wp2_with ((with_reducible show wpList _ _ _ _ _ _); first
          | (refine wpList_alloc_new 7 rfl rfl 69 rfl RVzero.cells alloc_ratio ?_; rintro w4 gP zg zm zs zb; replace ORD : Sl (w.heap.size ≤ gP) := ⟨by have := HB.out.size; omega⟩; have OBXOP : Sl (∀ zk, v5.ownBlock = some zk → zk < gP) := ⟨fun zk hk => by have := (XO.out.lt zk hk).2; omega⟩; replace HB := HB.v zm (by have := HB.out.size; have := ORD.out; omega); replace XO : Sl (w4.ownsRow w.heap.size 2 1 v5 k (ints (t.cl k))) := ⟨own_mv XO.out zm (fun zk hk => by have := (XO.out.lt zk hk).2; omega)⟩; have XP : Sl (Blk w4 gP 69 RVzero.cells) := ⟨zb⟩; clear zg zm zs zb)
          | (refine wpList_store_whole rfl 69 (.tmp 7) (.tmp 16) rfl gP (t.N k).cells rfl rfl 69 RVzero.cells XP.out rfl size_ratio (RV.cells_one _) ?_; rintro w5 zm zs zb; replace HB := HB.v zm (by have := ORD.out; omega); replace XO : Sl (w5.ownsRow w.heap.size 2 1 v5 k (ints (t.cl k))) := ⟨own_mv XO.out zm (fun zk hk => by have := OBXOP.out zk hk; omega)⟩; replace XP : Sl (Blk w5 gP 69 (t.N k).cells) := ⟨zb⟩; clear zm zs zb)
          | (refine wpList_load_whole rfl 69 (.tmp 7) rfl gP rfl 69 (t.N k).cells _ XP.out Tryz.underlying69 rfl size_ratio ?_))
        refine (HCE.out _ (HT.out.below HB.out)).mono ?_; rintro e w6 ⟨rfl, hb⟩; replace HB := HB.y hb; replace XP := XP.x hb; replace XO : Sl (w6.ownsRow w.heap.size 2 1 v5 k (ints (t.cl k))) := ⟨own_mv XO.out (Mv.of_below hb) (fun zk hk => by have := (XO.out.lt zk hk).2; omega)⟩; clear hb
        go_wp2_with ((with_reducible show wpList _ _ _ _ _ _); first
          | (at_builtin; go_loud (refine wpList_append_any _ rfl (.tmp 17) (.tmp 20) _ rfl w.heap.size 2 i0 _ 1 8 Tryz.underlying49 HI.out.1 HI.out.2.1 HI.out.2.2.1 HI.out.2.2.2 rfl (by decide) v5 k _ rfl (own_alloc XO.out _) _ (some ⟨w6.heap.size, 0, none⟩) 1 1 [.int .i64 m] rfl (reads_i1 _ _ _) (by intro u hu; simp at hu; subst hu; rfl) (by unfold maxLen; omega) (by omega) (by have := HB.out.size; simp; omega) ?_); rintro v6 wN hown hg hat; have XQ : Sl (wN.ownsRow w.heap.size 2 1 v6 (k + 1) (ints (t.cl (k + 1)))) := ⟨by rw [TV.cl_succ, ints_snoc, HM.out]; exact hown⟩; have HBN : Sl (Below w.heap.size w wN) := ⟨below_grown2 HB.out HB.out.size XO.out hg⟩; clear hown hg hat))
        exact ⟨⟨k + 1, v6, hk12, by go_num, rfl, HBN, XQ⟩, by simp [RowKit.intOf]; omega⟩
      · obtain rfl : k = 12 := (by omega); clear hk12; go_wp2_with fail; go_ret2; exact ⟨⟨fun h => absurd HC.out h, fun _ => ⟨v5, rfl, XO.out⟩⟩, HB.out⟩
  · have hz : ((c : Int) != 0) = true := (by rw [bne_iff_ne]; exact h0); go_wp2_with fail; go_ret2; exact ⟨⟨fun _ => by rw [HC.out]; rfl, fun h => absurd (HC.out.symm.trans h) h0⟩, HB.out⟩
end Go.Proofs.YtgmpipimancnhaaGreatDoor
namespace Go.Proofs.YtgmpipimancnhaaGreatDoor
set_option linter.unusedSimpArgs false
open Go.RowKit
set_option linter.unusedVariables false
def TV0 : TV := ⟨⟨#[]⟩, false, 0, fun _ => 0, fun _ => 0⟩
theorem alloc_temper (w : World) : (Instr.alloc 26 true (.tuple #[])).run Tryz.prog w = .ok (.pointer (some ⟨w.heap.size, 0, none⟩)) (w.alloc (.cells TV0.cells 26)) := by kernel_rfl
theorem TV.cells_ext {s t : TV} (h1 : s.nm = t.nm) (h2 : s.syn = t.syn) (h3 : s.wolf = t.wolf) (h4 : ∀ i, i < 12 → s.num i = t.num i) (h5 : ∀ i, i < 12 → s.den i = t.den i) : s.cells = t.cells := by
  have n0 := h4 0 (by decide); have d0 := h5 0 (by decide); have n1 := h4 1 (by decide); have d1 := h5 1 (by decide); have n2 := h4 2 (by decide); have d2 := h5 2 (by decide); have n3 := h4 3 (by decide); have d3 := h5 3 (by decide); have n4 := h4 4 (by decide); have d4 := h5 4 (by decide); have n5 := h4 5 (by decide); have d5 := h5 5 (by decide); have n6 := h4 6 (by decide); have d6 := h5 6 (by decide); have n7 := h4 7 (by decide); have d7 := h5 7 (by decide); have n8 := h4 8 (by decide); have d8 := h5 8 (by decide); have n9 := h4 9 (by decide); have d9 := h5 9 (by decide); have n10 := h4 10 (by decide); have d10 := h5 10 (by decide); have n11 := h4 11 (by decide); have d11 := h5 11 (by decide); unfold TV.cells; rw [h1, h2, h3, n0, d0, n1, d1, n2, d2, n3, d3, n4, d4, n5, d5, n6, d6, n7, d7, n8, d8, n9, d9, n10, d10, n11, d11]
theorem TV.den_at (t : TV) (d : Int) {k : Nat} (hk : k < 12) : t.cells.setIfInBounds (3 + k * 2 + 1) (.int .i64 d) = (TV.mk t.nm t.syn t.wolf t.num (fun i => if i = k then d else t.den i)).cells := by
  rcases twelve hk with rfl | rfl | rfl | rfl | rfl | rfl | rfl | rfl | rfl | rfl | rfl | rfl <;> kernel_rfl
theorem TV.part_at (t : TV) (n d : Int) {k : Nat} (hk : k < 12) : putA t.cells (3 + k * 2) (#[Value.int .i64 n, .int .i64 d]).toList = (TV.mk t.nm t.syn t.wolf (fun i => if i = k then n else t.num i) (fun i => if i = k then d else t.den i)).cells := by
  rcases twelve hk with rfl | rfl | rfl | rfl | rfl | rfl | rfl | rfl | rfl | rfl | rfl | rfl <;> kernel_rfl
def TV.mk5 (nm : ByteArray) (syn : Bool) (wolf den : Int) (L : List Int) (k : Nat) : TV := ⟨nm, syn, wolf, fun i => if i < k ∧ L.contains (i : Int) = true then 1 else 0, fun i => if i < k then (if L.contains (i : Int) = true then den else 1) else 0⟩
theorem TV.mk5_zero (nm : ByteArray) (syn : Bool) (wolf den : Int) (L : List Int) : (TV.mk nm syn wolf (fun _ => 0) (fun _ => 0)).cells = (TV.mk5 nm syn wolf den L 0).cells :=
  TV.cells_ext rfl rfl rfl (fun i _ => by show (0 : Int) = if i < 0 ∧ L.contains (i : Int) = true then 1 else 0; rw [if_neg (by omega)]) (fun i _ => by show (0 : Int) = if i < 0 then (if L.contains (i : Int) = true then den else 1) else 0; rw [if_neg (by omega)])
theorem TV.mk5_out {nm : ByteArray} {syn : Bool} {wolf den : Int} {L : List Int} {k : Nat} (hk : k < 12) (h : L.contains (k : Int) = false) : (TV.mk5 nm syn wolf den L k).cells.setIfInBounds (3 + k * 2 + 1) (.int .i64 1) = (TV.mk5 nm syn wolf den L (k + 1)).cells := by
  rw [TV.den_at _ _ hk]; refine TV.cells_ext rfl rfl rfl (fun i _ => ?_) (fun i _ => ?_)
  · show (if i < k ∧ L.contains (i : Int) = true then (1 : Int) else 0) = if i < k + 1 ∧ L.contains (i : Int) = true then 1 else 0
    by_cases h0 : i = k
    · subst h0; rw [if_neg (by omega), if_neg (by rw [h]; simp)]
    · by_cases h1 : i < k ∧ L.contains (i : Int) = true
      · rw [if_pos h1, if_pos ⟨by omega, h1.2⟩]
      · rw [if_neg h1, if_neg (fun h2 => h1 ⟨by omega, h2.2⟩)]
  · show (if i = k then 1 else if i < k then (if L.contains (i : Int) = true then den else 1) else 0) = if i < k + 1 then (if L.contains (i : Int) = true then den else 1) else 0
    by_cases h0 : i = k
    · subst h0; rw [if_pos rfl, if_pos (show i < i + 1 by omega), if_neg (by rw [h]; simp)]
    · by_cases h1 : i < k
      · rw [if_neg h0, if_pos h1, if_pos (show i < k + 1 by omega)]
      · rw [if_neg h0, if_neg h1, if_neg (show ¬ i < k + 1 by omega)]
theorem TV.mk5_in {nm : ByteArray} {syn : Bool} {wolf den : Int} {L : List Int} {k : Nat} (hk : k < 12) (h : L.contains (k : Int) = true) : putA ((TV.mk5 nm syn wolf den L k).cells.setIfInBounds (3 + k * 2 + 1) (.int .i64 1)) (3 + k * 2) (#[Value.int .i64 1, .int .i64 den]).toList = (TV.mk5 nm syn wolf den L (k + 1)).cells := by
  rw [TV.den_at _ _ hk, TV.part_at _ _ _ hk]; refine TV.cells_ext rfl rfl rfl (fun i _ => ?_) (fun i _ => ?_)
  · show (if i = k then (1 : Int) else if i < k ∧ L.contains (i : Int) = true then 1 else 0) = if i < k + 1 ∧ L.contains (i : Int) = true then 1 else 0
    by_cases h0 : i = k
    · subst h0; rw [if_pos rfl, if_pos ⟨by omega, h⟩]
    · rw [if_neg h0]
      by_cases h1 : i < k ∧ L.contains (i : Int) = true
      · rw [if_pos h1, if_pos ⟨by omega, h1.2⟩]
      · rw [if_neg h1, if_neg (fun h2 => h1 ⟨by omega, h2.2⟩)]
  · show (if i = k then den else if i = k then 1 else if i < k then (if L.contains (i : Int) = true then den else 1) else 0) = if i < k + 1 then (if L.contains (i : Int) = true then den else 1) else 0
    by_cases h0 : i = k
    · subst h0; rw [if_pos rfl, if_pos (show i < i + 1 by omega), if_pos h]
    · by_cases h1 : i < k
      · rw [if_neg h0, if_neg h0, if_pos h1, if_pos (show i < k + 1 by omega)]
      · rw [if_neg h0, if_neg h0, if_neg h1, if_neg (show ¬ i < k + 1 by omega)]
attribute [-simp] Tryz.isAgg26 Tryz.isAgg24 Tryz.isAgg23
theorem size_int : (Tryz.prog.info? 3).map (·.size) = some 1 := by kernel_rfl
set_option maxHeartbeats 6400000 in
set_option maxRecDepth 100000 in
theorem tempered_any (nm : ByteArray) (syn : Bool) (wolf den : Int) (L : List Int) (sl : Value) (w : World)
    (HL : Sl (∀ (W : World) (x : Int), Below w.heap.size w W → Calls Tryz.prog 89 #[sl, .int .i64 x] W fun e w' => e = .returned (.bool (L.contains x)) ∧ w' = W)) :
    Calls Tryz.prog 63 #[.string nm, .bool syn, .int .i64 wolf, .int .i64 den, sl] w fun e w' => e = .returned (.tuple #[.agg (TV.mk5 nm syn wolf den L 12).cells, .int .i64 0]) ∧ Below w.heap.size w w' := by
  have HB : Sl (Below w.heap.size w w) := ⟨Below.refl _ _⟩; go_enter Tryz.func63, Tryz.ntmps63
  go_wp2_with ((with_reducible show wpList _ _ _ _ _ _); first
    | (refine wpList_alloc_new 10 rfl rfl 26 rfl TV0.cells alloc_temper ?_; rintro w1 gR zg zm zs zb; have ORD : Sl (w.heap.size ≤ gR) := ⟨by have := HB.out.size; omega⟩; replace HB := HB.v zm (by have := HB.out.size; have := ORD.out; omega); have XR : Sl (Blk w1 gR 26 TV0.cells) := ⟨zb⟩; clear zg zm zs zb)
    | (refine wpList_alloc_new 12 rfl rfl 26 rfl TV0.cells alloc_temper ?_; rintro w2 gU zg zm zs zb; replace ORD : Sl (w.heap.size ≤ gR ∧ gR < gU) := ⟨by have := HB.out.size; have := ORD.out; have := XR.out.lt; omega⟩; replace HB := HB.v zm (by have := HB.out.size; have := ORD.out; omega); replace XR := XR.w zm (by have := XR.out.lt; have := ORD.out; omega); have XU : Sl (Blk w2 gU 26 TV0.cells) := ⟨zb⟩; clear zg zm zs zb)
    | (refine wpList_store_whole rfl 26 (.tmp 12) (.tmp 17) rfl gU (TV.mk nm syn wolf (fun _ => 0) (fun _ => 0)).cells rfl rfl 26 TV0.cells XU.out rfl (size_temper _) (TV.cells_one _) ?_; rintro w3 zm zs zb; replace HB := HB.v zm (by have := ORD.out; omega); replace XR := XR.w zm (by have := XR.out.lt; have := ORD.out; omega); replace XU : Sl (Blk w3 gU 26 (TV.mk nm syn wolf (fun _ => 0) (fun _ => 0)).cells) := ⟨zb⟩; clear zm zs zb))
  replace XU : Sl (Blk w3 gU 26 (TV.mk5 nm syn wolf den L 0).cells) := ⟨by rw [← TV.mk5_zero]; exact XU.out⟩
  go_loopw [18] (fun s18 wr => ∃ k : Nat, k ≤ 12 ∧ s18 = .int .i64 k ∧ Sl (Below w.heap.size w wr) ∧ Sl (Blk wr gR 26 TV0.cells) ∧ Sl (Blk wr gU 26 (TV.mk5 nm syn wolf den L k).cells)) (fun s18 _ => 12 - (RowKit.intOf s18).toNat)
  case atStart => exact ⟨0, by decide, rfl, HB, XR, XU⟩
  case round =>
    clear HB XR XU; obtain ⟨k, hk, rfl, HB, XR, XU⟩ := hrel
    by_cases hk12 : k < 12
    · have hk0 : (0 : Int) ≤ (k : Int) := (by omega); have hk1 : (k : Int) < 12 := (by omega)
      by_cases hin : L.contains (k : Int) = true
      · have HIN : Sl _ := ⟨hin⟩; clear hin
        go_wp2_with ((with_reducible show wpList _ _ _ _ _ _); first
          | (refine wpList_store_int rfl 3 (.tmp 24) _ rfl gU (3 + k * 2 + 1) .i64 (1) rfl rfl 26 (TV.mk5 nm syn wolf den L k).cells ((TV.mk5 nm syn wolf den L k).cells.setIfInBounds (3 + k * 2 + 1) (.int .i64 1)) XU.out (by rw [TV.cells_size]; omega) rfl size_int ?_; rintro w4 zm zs zb; replace HB := HB.v zm (by have := HB.out.size; have := ORD.out; omega); replace XR := XR.w zm (by have := XR.out.lt; have := ORD.out; omega); replace XU : Sl (Blk w4 gU 26 ((TV.mk5 nm syn wolf den L k).cells.setIfInBounds (3 + k * 2 + 1) (.int .i64 1))) := ⟨zb⟩; clear zm zs zb))
        refine (HL.out _ _ HB.out).mono ?_; rintro e wx ⟨rfl, rfl⟩; rw [HIN.out]
        go_wp2_with ((with_reducible show wpList _ _ _ _ _ _); first
          | (refine wpList_store_part rfl 23 (.tmp 32) (.tmp 30) rfl gU (3 + k * 2) #[.int .i64 1, .int .i64 den] rfl rfl 26 ((TV.mk5 nm syn wolf den L k).cells.setIfInBounds (3 + k * 2 + 1) (.int .i64 1)) (TV.mk5 nm syn wolf den L (k + 1)).cells XU.out (by rw [Array.size_setIfInBounds, TV.cells_size]; show 3 + k * 2 + 2 ≤ 27; omega) (TV.mk5_in hk12 HIN.out) (size_part _ _) (part_one _ _) ?_; rintro w5 zm zs zb; replace HB := HB.v zm (by have := HB.out.size; have := ORD.out; omega); replace XR := XR.w zm (by have := XR.out.lt; have := ORD.out; omega); replace XU : Sl (Blk w5 gU 26 (TV.mk5 nm syn wolf den L (k + 1)).cells) := ⟨zb⟩; clear zm zs zb))
        exact ⟨⟨k + 1, hk12, by go_num, HB, XR, XU⟩, by simp [RowKit.intOf]; omega⟩
      · have HIN : Sl (L.contains (k : Int) = false) := ⟨by simpa using hin⟩; clear hin
        go_wp2_with ((with_reducible show wpList _ _ _ _ _ _); first
          | (refine wpList_store_int rfl 3 (.tmp 24) _ rfl gU (3 + k * 2 + 1) .i64 (1) rfl rfl 26 (TV.mk5 nm syn wolf den L k).cells (TV.mk5 nm syn wolf den L (k + 1)).cells XU.out (by rw [TV.cells_size]; omega) (TV.mk5_out hk12 HIN.out) size_int ?_; rintro w16 zm zs zb; replace HB := HB.v zm (by have := HB.out.size; have := ORD.out; omega); replace XR := XR.w zm (by have := XR.out.lt; have := ORD.out; omega); replace XU : Sl (Blk w16 gU 26 (TV.mk5 nm syn wolf den L (k + 1)).cells) := ⟨zb⟩; clear zm zs zb))
        refine (HL.out _ _ HB.out).mono ?_; rintro e wx ⟨rfl, rfl⟩; rw [HIN.out]; go_wp2_with fail; exact ⟨⟨k + 1, hk12, by go_num, HB, XR, XU⟩, by simp [RowKit.intOf]; omega⟩
    · obtain rfl : k = 12 := (by omega); clear hk hk12
      go_wp2_with ((with_reducible show wpList _ _ _ _ _ _); first
        | (refine wpList_load_whole rfl 26 (.tmp 12) rfl gU rfl 26 (TV.mk5 nm syn wolf den L 12).cells _ XU.out Tryz.underlying26 rfl (size_temper _) ?_)
        | (refine wpList_store_whole rfl 26 (.tmp 10) (.tmp 34) rfl gR (TV.mk5 nm syn wolf den L 12).cells rfl rfl 26 TV0.cells XR.out rfl (size_temper _) (TV.cells_one _) ?_; rintro w27 zm zs zb; replace HB := HB.v zm (by have := ORD.out; omega); replace XU := XU.w zm (by have := XU.out.lt; have := ORD.out; omega); replace XR : Sl (Blk w27 gR 26 (TV.mk5 nm syn wolf den L 12).cells) := ⟨zb⟩; clear zm zs zb))
      refine bodyPost_ret (results_rowR rfl _ _ gR _ _ _ rfl XR.out Tryz.underlying26 rfl (size_temper _)) rfl ?_; exact ⟨rfl, HB.out⟩
end Go.Proofs.YtgmpipimancnhaaGreatDoor
namespace Go.Proofs.YtgmpipimancnhaaGreatDoor
set_option linter.unusedSimpArgs false
open Go.RowKit
set_option linter.unusedVariables false
def stdT (nm : ByteArray) : TV × Int :=
  if (nm.toList == [101, 113, 117, 97, 108]) = true then (TV.mk5 nm false 11 12 [0, 1, 2, 3, 4, 5, 6, 7, 8, 9, 10] 12, 0) else
  if (nm.toList == [112, 121, 116, 104, 97, 103, 111, 114, 101, 97, 110]) = true then (TV.mk5 nm false 8 1 [] 12, 0) else
  if (nm.toList == [109, 101, 97, 110, 116, 111, 110, 101]) = true then (TV.mk5 nm true 8 4 [0, 1, 2, 3, 4, 5, 6, 7, 9, 10, 11] 12, 0) else
  if (nm.toList == [119, 101, 114, 99, 107, 109, 101, 105, 115, 116, 101, 114]) = true then (TV.mk5 nm false 11 4 [0, 1, 2, 5] 12, 0) else
  if (nm.toList == [107, 105, 114, 110, 98, 101, 114, 103, 101, 114]) = true then (TV.mk5 nm true 6 4 [0, 1, 2, 3] 12, 0) else
  if (nm.toList == [118, 97, 108, 108, 111, 116, 116, 105]) = true then (TV.mk5 nm false 6 6 [0, 1, 2, 3, 4, 11] 12, 0) else
  if (nm.toList == [121, 111, 117, 110, 103]) = true then (TV.mk5 nm false 11 6 [0, 1, 2, 3, 4, 5] 12, 0) else
  (TV0, 4)
theorem contains_blk {w : World} {g : Nat} {t : TypeId} {L : List Int} (hB : Blk w g t (ints L).toArray) (n : Nat) (hn : L.length = n) (hm : n ≤ 1000) : Sl (∀ (W : World) (x : Int), Below w.heap.size w W → Calls Tryz.prog 89 #[.slice (some ⟨g, 0, none⟩) n n, .int .i64 x] W fun e w' => e = .returned (.bool (L.contains x)) ∧ w' = W) := ⟨fun W x h => by
  have X := hB.below h hB.lt; have key := Tryz.slices_Contains_int g 0 n n L x W (by omega); rw [← hn, List.take_length] at key
  have := key (by omega) (fun j hj => by
    rw [Nat.zero_add, X.cell]; unfold ints
    simp [hj])
  rw [hn] at this
  exact this⟩
attribute [-simp] Tryz.isAgg26
set_option maxHeartbeats 6400000 in
set_option maxRecDepth 100000 in
theorem Standard_mt (nm : ByteArray) (h2 : (nm.toList == [109, 101, 97, 110, 116, 111, 110, 101]) = true) (w : World) : Calls Tryz.prog 38 #[.string nm] w fun e w' => e = .returned (.tuple #[.agg (stdT nm).1.cells, .int .i64 (stdT nm).2]) ∧ Below w.heap.size w w' := by
  have HB : Sl (Below w.heap.size w w) := ⟨Below.refl _ _⟩; obtain ⟨sr, hsr⟩ : ∃ x, stdT nm = x := ⟨_, rfl⟩; rw [hsr]; have HSR : Sl _ := ⟨hsr⟩; clear hsr; have h0 : ¬ (nm.toList == [101, 113, 117, 97, 108]) = true := (by rw [eq_of_beq h2]; decide); have h1 : ¬ (nm.toList == [112, 121, 116, 104, 97, 103, 111, 114, 101, 97, 110]) = true := (by rw [eq_of_beq h2]; decide); have HV : Sl (sr = (TV.mk5 nm true 8 4 [0, 1, 2, 3, 4, 5, 6, 7, 9, 10, 11] 12, 0)) := ⟨by rw [← HSR.out]; unfold stdT; rw [if_neg h0, if_neg h1, if_pos h2]⟩; have e0 : (nm.toList == [101, 113, 117, 97, 108]) = false := (by simpa using h0); have e1 : (nm.toList == [112, 121, 116, 104, 97, 103, 111, 114, 101, 97, 110]) = false := (by simpa using h1); clear h0; clear h1; go_enter Tryz.func38, Tryz.ntmps38
  go_wp2_with ((with_reducible show wpList _ _ _ _ _ _); first
    | (refine wpList_alloc_new 2 rfl rfl 26 rfl TV0.cells alloc_temper ?_; rintro w28 gR zg zm zs zb; have ORD : Sl (w.heap.size ≤ gR) := ⟨by have := HB.out.size; omega⟩; replace HB := HB.v zm (by have := HB.out.size; have := ORD.out; omega); have XR : Sl (Blk w28 gR 26 TV0.cells) := ⟨zb⟩; clear zg zm zs zb))
  have hbx : Below w28.heap.size w28 (w28.alloc (.cells (ints [0, 1, 2, 3, 4, 5, 6, 7, 9, 10, 11]).toArray 3)) := (Below.refl _ _).alloc (Nat.le_refl _) _; have HXB : Sl (Blk (w28.alloc (.cells (ints [0, 1, 2, 3, 4, 5, 6, 7, 9, 10, 11]).toArray 3)) w28.heap.size 3 (ints [0, 1, 2, 3, 4, 5, 6, 7, 9, 10, 11]).toArray) := ⟨Blk.new _ _ _⟩; replace HB : Sl (Below w.heap.size w (w28.alloc (.cells (ints [0, 1, 2, 3, 4, 5, 6, 7, 9, 10, 11]).toArray 3))) := ⟨HB.out.trans (hbx.mono HB.out.size)⟩; replace XR : Sl (Blk (w28.alloc (.cells (ints [0, 1, 2, 3, 4, 5, 6, 7, 9, 10, 11]).toArray 3)) gR 26 TV0.cells) := ⟨XR.out.below hbx XR.out.lt⟩; clear hbx; refine (tempered_any nm true 8 4 [0, 1, 2, 3, 4, 5, 6, 7, 9, 10, 11] _ (w28.alloc (.cells (ints [0, 1, 2, 3, 4, 5, 6, 7, 9, 10, 11]).toArray 3)) (contains_blk HXB.out 11 rfl (by decide))).mono ?_; rintro e w30 ⟨rfl, hb⟩; replace HB := HB.y hb; replace XR := XR.x hb; clear hb
  go_wp2_with ((with_reducible show wpList _ _ _ _ _ _); first
    | (refine wpList_store_whole rfl 26 (.tmp 2) (.tmp 23) rfl gR (TV.mk5 nm true 8 4 [0, 1, 2, 3, 4, 5, 6, 7, 9, 10, 11] 12).cells rfl rfl 26 TV0.cells XR.out rfl (size_temper _) (TV.cells_one _) ?_; rintro w31 zm zs zb; replace HB := HB.v zm (by have := ORD.out; omega); replace XR : Sl (Blk w31 gR 26 (TV.mk5 nm true 8 4 [0, 1, 2, 3, 4, 5, 6, 7, 9, 10, 11] 12).cells) := ⟨zb⟩; clear zm zs zb))
  refine bodyPost_ret (results_rowR rfl _ _ gR _ _ _ rfl XR.out Tryz.underlying26 rfl (size_temper _)) rfl ?_; exact ⟨by rw [HV.out]; rfl, HB.out⟩
set_option maxHeartbeats 6400000 in
set_option maxRecDepth 100000 in
theorem named0 (nm : ByteArray) (hs : ∀ W : World, Calls Tryz.prog 38 #[.string nm] W fun e w' => e = .returned (.tuple #[.agg (stdT nm).1.cells, .int .i64 (stdT nm).2]) ∧ Below W.heap.size W w') (w : World) : Calls Tryz.prog 22 #[.string nm] w fun e w' => e = .returned (.agg (stdT nm).1.cells) ∧ Below w.heap.size w w' := by
  have HB : Sl (Below w.heap.size w w) := ⟨Below.refl _ _⟩; have HS : Sl _ := ⟨hs⟩; clear hs; obtain ⟨⟨tt, er⟩, ht⟩ : ∃ x, stdT nm = x := ⟨_, rfl⟩; rw [ht] at HS ⊢; clear ht; go_enter Tryz.func22, Tryz.ntmps22
  go_wp2_with ((with_reducible show wpList _ _ _ _ _ _); first
    | (refine wpList_alloc_new 2 rfl rfl 26 rfl TV0.cells alloc_temper ?_; rintro w1 gR zg zm zs zb; have ORD : Sl (w.heap.size ≤ gR) := ⟨by have := HB.out.size; omega⟩; replace HB := HB.v zm (by have := HB.out.size; have := ORD.out; omega); have XR : Sl (Blk w1 gR 26 TV0.cells) := ⟨zb⟩; clear zg zm zs zb))
  refine (HS.out _).mono ?_; rintro e w2 ⟨rfl, hb⟩; replace HB := HB.y hb; replace XR := XR.x hb; clear hb
  go_wp2_with ((with_reducible show wpList _ _ _ _ _ _); first
    | (refine wpList_alloc_new 3 rfl rfl 26 rfl TV0.cells alloc_temper ?_; rintro w3 gU zg zm zs zb; replace ORD : Sl (w.heap.size ≤ gR ∧ gR < gU) := ⟨by have := HB.out.size; have := ORD.out; have := XR.out.lt; omega⟩; replace HB := HB.v zm (by have := HB.out.size; have := ORD.out; omega); replace XR := XR.w zm (by have := XR.out.lt; have := ORD.out; omega); have XU : Sl (Blk w3 gU 26 TV0.cells) := ⟨zb⟩; clear zg zm zs zb)
    | (refine wpList_store_whole rfl 26 (.tmp 3) (.tmp 8) rfl gU tt.cells rfl rfl 26 TV0.cells XU.out rfl (size_temper _) (TV.cells_one _) ?_; rintro w4 zm zs zb; replace HB := HB.v zm (by have := ORD.out; omega); replace XR := XR.w zm (by have := XR.out.lt; have := ORD.out; omega); replace XU : Sl (Blk w4 gU 26 tt.cells) := ⟨zb⟩; clear zm zs zb)
    | (refine wpList_load_whole rfl 26 (.tmp 3) rfl gU rfl 26 tt.cells _ XU.out Tryz.underlying26 rfl (size_temper _) ?_)
    | (refine wpList_store_whole rfl 26 (.tmp 2) (.tmp 10) rfl gR tt.cells rfl rfl 26 TV0.cells XR.out rfl (size_temper _) (TV.cells_one _) ?_; rintro w5 zm zs zb; replace HB := HB.v zm (by have := ORD.out; omega); replace XU := XU.w zm (by have := XU.out.lt; have := ORD.out; omega); replace XR : Sl (Blk w5 gR 26 tt.cells) := ⟨zb⟩; clear zm zs zb))
  refine bodyPost_ret (results_cell_row rfl _ _ gR _ _ _ _ rfl XR.out Tryz.underlying26 rfl (size_temper _)) rfl ?_; exact ⟨rfl, HB.out⟩
end Go.Proofs.YtgmpipimancnhaaGreatDoor
namespace Go.Proofs.YtgmpipimancnhaaGreatDoor
set_option linter.unusedSimpArgs false
open Go.RowKit
set_option linter.unusedVariables false
theorem ce_ex {u : Nat → Int} {D : Int} (hu : fitsV u D) (h1 : TT (-D) u) (h2 : SS D u) {w : World} (hT : PrT w) : ∃ b, Ce (nr u D) (cmN u D) b := by
  obtain ⟨e, w1, _, ⟨hc, _⟩, _⟩ := Cents_any (nr u D) w hT []; obtain ⟨⟨b, _, h⟩, _⟩ := cents_tame hu h1 h2 hc; exact ⟨b, h⟩
theorem std_mt : (stdT ⟨#[109, 101, 97, 110, 116, 111, 110, 101]⟩).1.cells = mtT.cells := by
  have e : stdT ⟨#[109, 101, 97, 110, 116, 111, 110, 101]⟩ = (TV.mk5 ⟨#[109, 101, 97, 110, 116, 111, 110, 101]⟩ true 8 4 [0, 1, 2, 3, 4, 5, 6, 7, 9, 10, 11] 12, 0) := by
    unfold stdT; rw [if_neg (by decide +kernel), if_neg (by decide +kernel), if_pos (by decide +kernel)]
  rw [e]; refine TV.cells_ext (by decide +kernel) rfl rfl (fun i hi => ?_) (fun i hi => ?_)
  · have h : ∀ i, i < 12 → (TV.mk5 ⟨#[109, 101, 97, 110, 116, 111, 110, 101]⟩ true 8 4 [0, 1, 2, 3, 4, 5, 6, 7, 9, 10, 11] 12).num i = mtT.num i := (by decide +kernel); exact h i hi
  · have h : ∀ i, i < 12 → (TV.mk5 ⟨#[109, 101, 97, 110, 116, 111, 110, 101]⟩ true 8 4 [0, 1, 2, 3, 4, 5, 6, 7, 9, 10, 11] 12).den i = mtT.den i := (by decide +kernel); exact h i hi
theorem mtT_nm : mtT.nm.size ≤ maxLen := by
  have : mtT.nm.size = 8 := (by decide +kernel); rw [this]; decide
theorem mt_note {k a b c : Nat} (hk : k ≤ 12) {w : World} (hT : PrT w) : ∃ b, Ce (nr (mt.n k) mt.D) (cmN (mt.n k) mt.D) b := by
  obtain ⟨h1, h2⟩ := mt_ok.n_range hk; exact ce_ex (mt_ok.n_fits hk) (h1.mono (by decide)) h2 hT
theorem mt_v4 {w : World} (hT : PrT w) : (mtT.cl 12)[4]? = some 386313 := by
  have hT0 := hT; obtain ⟨b, h⟩ := mt_note (k := 4) (a := 0) (b := 0) (c := 0) (by decide) hT; have := mt_c4 mt_n4 h; unfold TV.cl; rw [mtT_tp]; simp; exact this
theorem mt_v7 {w : World} (hT : PrT w) : (mtT.cl 12)[7]? = some 696578 := by
  obtain ⟨b, h⟩ := mt_note (k := 1) (a := 0) (b := 0) (c := 0) (by decide) hT; have := mt_c1 mt_n1 h; unfold TV.cl; rw [mtT_tp]; simp; exact this
theorem mt_ex {p : Nat → Int} (hp : Pure p) {a b : Nat} (ha : a ≤ 12) (hb : b ≤ 12) {w : World} (hT : PrT w) : ∃ z, Ce (nr (mt.x p a b) mt.D) (cmN (mt.x p a b) mt.D) z := by
  obtain ⟨h1, h2⟩ := mt_ok.x_rng hp ha hb; exact ce_ex (mt_ok.x_fits hp ha hb) h1 h2 hT
theorem mt_tri {w : World} (hT : PrT w) : mtT.tri 8 = (41058, 35682, 0) := by
  have e1 : mtT.xc b54 8 12 = 41058 := by
    unfold TV.xc TV.X; rw [mtT_tp]; obtain ⟨z, h⟩ := mt_ex pure54 (a := 8) (b := 0) (by decide) (by decide) hT; refine mt_third (fun j hj => ?_) h; unfold TP.x TP.b; rw [mt_b80 j hj]
    revert j
    decide
  have e2 : mtT.xc b32 8 15 = 35682 := by
    unfold TV.xc TV.X; rw [mtT_tp]; obtain ⟨z, h⟩ := mt_ex pure32 (a := 8) (b := 9) (by decide) (by decide) hT; refine mt_fifth (fun j hj => ?_) h; unfold TP.x TP.b; rw [mt_b89 j hj]
    revert j
    decide
  unfold TV.tri; rw [if_pos mtT_chk, if_pos (by decide)]; show (mtT.xc b54 8 12, mtT.xc b32 8 15, (0 : Int)) = _; rw [e1, e2]
set_option maxHeartbeats 6400000 in
set_option maxRecDepth 100000 in
theorem awake5_any (w : World) (hT : PrT w) : Calls Tryz.prog 8 #[] w fun e w' => e = .returned (.bool true) ∧ Below w.heap.size w w' := by
  have HB : Sl (Below w.heap.size w w) := ⟨Below.refl _ _⟩; have HT : Sl _ := ⟨hT⟩
  have HNA : Sl (∀ W : World, Calls Tryz.prog 22 #[.string ⟨#[109, 101, 97, 110, 116, 111, 110, 101]⟩] W fun e w' => e = .returned (.agg mtT.cells) ∧ Below W.heap.size W w') := ⟨fun W => by
    have := named0 ⟨#[109, 101, 97, 110, 116, 111, 110, 101]⟩ (Standard_mt _ (by decide +kernel)) W; rw [std_mt] at this
    exact this⟩
  have HCE : Sl (∀ W : World, PrT W → Calls Tryz.prog 21 #[.agg mtT.cells] W fun e w' => (∃ g c, e = .returned (.tuple #[.slice (some ⟨g, 0, none⟩) 12 c, .int .i64 0]) ∧ g < w'.heap.size ∧ w'.cell? ⟨g, 4, none⟩ = some (.int .i64 386313) ∧ w'.cell? ⟨g, 7, none⟩ = some (.int .i64 696578)) ∧ Below W.heap.size W w') := ⟨fun W h => (tCents_any mtT mtT_nm W h).mono fun e w' ⟨hc, hb⟩ => by
    obtain ⟨v, rfl, ho⟩ := hc.2 mtT_chk; obtain ⟨g, c, rfl, _, hlt⟩ := ho.form (by decide); have h4 := World.ownsRow.cellAt ho 4 (by decide); have h7 := World.ownsRow.cellAt ho 7 (by decide); unfold ints at h4 h7; rw [List.getElem?_map, mt_v4 h] at h4; rw [List.getElem?_map, mt_v7 h] at h7
    exact ⟨⟨g, c, rfl, hlt, h4, h7⟩, hb⟩⟩
  have HTR : Sl (∀ W : World, PrT W → Calls Tryz.prog 23 #[.agg mtT.cells, .int .i64 8] W fun e w' => e = .returned (.tuple #[.int .i64 41058, .int .i64 35682, .int .i64 0]) ∧ Below W.heap.size W w') := ⟨fun W h => by
    have := ttriad_any mtT mtT_nm 8 W h; rw [mt_tri h] at this
    exact this⟩
  clear hT; go_enter Tryz.func8, Tryz.ntmps8; go_wp2_with fail; refine (HNA.out _).mono ?_; rintro e w1 ⟨rfl, hb⟩; replace HB := HB.y hb; clear hb; go_wp2_with fail; refine (HCE.out _ (HT.out.below HB.out)).mono ?_; rintro e w2 ⟨⟨g, cp, rfl, hlt, h4, h7⟩, hb⟩; replace HB := HB.y hb; have HG : Sl _ := ⟨And.intro hlt (And.intro h4 h7)⟩; clear hb hlt h4 h7; go_wp2_with fail; refine (HNA.out _).mono ?_; rintro e w3 ⟨rfl, hb⟩; replace HG : Sl (g < w3.heap.size ∧ w3.cell? ⟨g, 4, none⟩ = some (.int .i64 386313) ∧ w3.cell? ⟨g, 7, none⟩ = some (.int .i64 696578)) := ⟨Nat.lt_of_lt_of_le HG.out.1 hb.size, (hb.cell (p := ⟨g, 4, none⟩) HG.out.1).trans HG.out.2.1, (hb.cell (p := ⟨g, 7, none⟩) HG.out.1).trans HG.out.2.2⟩; replace HB := HB.y hb; clear hb; go_wp2_with fail; refine (HTR.out _ (HT.out.below HB.out)).mono ?_; rintro e w4 ⟨rfl, hb⟩; have k4 : w4.cell? ⟨g, 4, none⟩ = some (.int .i64 386313) := (hb.cell (p := ⟨g, 4, none⟩) HG.out.1).trans HG.out.2.1; have k7 : w4.cell? ⟨g, 7, none⟩ = some (.int .i64 696578) := (hb.cell (p := ⟨g, 7, none⟩) HG.out.1).trans HG.out.2.2; replace HB := HB.y hb; clear hb; go_wp2_with fail; go_ret; exact ⟨rfl, HB.out⟩
end Go.Proofs.YtgmpipimancnhaaGreatDoor
namespace Go.Proofs.YtgmpipimancnhaaGreatDoor
set_option linter.unusedSimpArgs false
open Go.RowKit
set_option linter.unusedVariables false
attribute [-simp] Tryz.isAgg69 Tryz.isAgg26 Tryz.isAgg24 Tryz.isAgg23
def itB (z : Int) : ByteArray := ⟨(Lib.itoa z).toArray⟩
def ItoaOK (w : World) : Prop := ∀ (z : Int) (W : World), -100 ≤ z → z ≤ 100 → Below w.heap.size w W → Calls Tryz.prog 10 #[.int .i64 z] W fun e w' => e = .returned (.string (itB z)) ∧ Below W.heap.size W w'
theorem dd_len {u : Nat} (h : u < 1000) : (Lib.decDigits u).length ≤ 3 := by
  rw [Lib.decDigits]
  split
  · simp
  · rw [List.length_append, Lib.decDigits]
    split
    · simp
    · rw [List.length_append, Lib.decDigits]; rw [dif_pos (by omega)]; simp
theorem itoa_len {z : Int} (h1 : -100 ≤ z) (h2 : z ≤ 100) : (Lib.itoa z).length ≤ 4 := by
  unfold Lib.itoa
  split
  · have := dd_len (u := z.natAbs) (by omega); simp only [List.length_cons]; omega
  · have := dd_len (u := z.toNat) (by omega); omega
theorem itB_len {z : Int} (h1 : -100 ≤ z) (h2 : z ≤ 100) : (itB z).size ≤ 4 := by
  have := itoa_len h1 h2; unfold itB; show (Lib.itoa z).toArray.size ≤ 4; rw [List.size_toArray]; exact this
def comB (syn : Bool) : ByteArray := if syn then ⟨#[115, 121, 110, 116, 111, 110, 105, 99]⟩ else ⟨#[112, 121, 116, 104, 97, 103, 111, 114, 101, 97, 110]⟩
def wdB (n d : Int) : ByteArray := if 1 < d then itB n ++ (⟨#[47]⟩ ++ itB d) else itB n
def TV.wds (t : TV) (k : Nat) : List ByteArray := [t.nm, comB t.syn, itB t.wolf] ++ (List.range k).map fun i => wdB (t.num i) (t.den i)
theorem TV.wds_succ (t : TV) (k : Nat) : t.wds (k + 1) = t.wds k ++ [wdB (t.num k) (t.den k)] := by unfold TV.wds; rw [List.range_succ, List.map_append, List.append_assoc]; rfl
theorem TV.wds_len (t : TV) (k : Nat) : (t.wds k).length = 3 + k := by unfold TV.wds; simp; omega
def TV.txt (t : TV) : ByteArray := ⟨(Lib.join ((t.wds 12).map (·.data.toList)) [32]).toArray⟩
theorem nameS_len {s : ByteArray} (h : nameS s = true) : s.size ≤ 16 := by
  unfold nameS at h; exact (of_decide_eq_true h).1.2
theorem wds_small {t : TV} (hn : t.nm.size ≤ 16) (h : (0 ≤ t.wolf ∧ t.wolf ≤ 11) ∧ (∀ i, i < 12 → ¬ t.bad i) ∧ nameS t.nm = true ∧ (∀ i, i < 12 → t.low i) ∧ t.num t.wolf.toNat = 0 ∧ t.all 12 ≤ 120) : ∀ x ∈ (t.wds 12).map (·.data.toList), x.length ≤ 16 := by
  have hsz : ∀ b : ByteArray, b.data.toList.length = b.size := fun b => by rw [Array.length_toList]; rfl
  intro x hx; obtain ⟨b, hb, rfl⟩ := List.mem_map.1 hx; rw [hsz]; unfold TV.wds at hb; rcases List.mem_append.1 hb with hb | hb
  · simp only [List.mem_cons, List.not_mem_nil, or_false] at hb; rcases hb with rfl | rfl | rfl
    · exact hn
    · unfold comB; split <;> decide
    · have := itB_len (z := t.wolf) (by omega) (by omega); omega
  · obtain ⟨i, hi, rfl⟩ := List.mem_map.1 hb; have hbad := h.2.1 i (List.mem_range.1 hi); unfold TV.bad at hbad; have l1 := itB_len (z := t.num i) (by omega) (by omega); have l2 := itB_len (z := t.den i) (by omega) (by omega); unfold wdB
    split
    · rw [ByteArray.size_append, ByteArray.size_append]; have : (⟨#[47]⟩ : ByteArray).size = 1 := rfl; omega
    · omega
set_option maxHeartbeats 6400000 in
set_option maxRecDepth 100000 in
theorem tText_any (t : TV) (hs : t.nm.size ≤ maxLen) (w : World) (hI : ItoaOK w) : Calls Tryz.prog 4 #[.agg t.cells] w fun e w' => (t.chk nameS ≠ 0 → e = .returned (.tuple #[.string ⟨#[]⟩, .int .i64 (t.chk nameS)])) ∧ (t.chk nameS = 0 → e = .returned (.tuple #[.string t.txt, .int .i64 0])) ∧ Below w.heap.size w w' := by
  have HB : Sl (Below w.heap.size w w) := ⟨Below.refl _ _⟩; have HIT : Sl _ := ⟨hI⟩; have HCK : Sl (∀ W : World, Calls Tryz.prog 9 #[.agg t.cells] W fun e w' => e = .returned (.int .i64 (t.chk nameS)) ∧ Below W.heap.size W w') := ⟨fun W => tcheck_any t W hs⟩; clear hs hI; obtain ⟨c, hc⟩ : ∃ c, t.chk nameS = c := ⟨_, rfl⟩; rw [hc] at HCK; rw [hc]; have HC : Sl _ := ⟨hc⟩; clear hc; obtain ⟨i0, hi0, hz0, hz1, hz2⟩ := info_str; have HI : Sl _ := ⟨And.intro hi0 (And.intro hz0 (And.intro hz1 hz2))⟩; clear hi0 hz0 hz1 hz2; go_enter Tryz.func4, Tryz.ntmps4
  go_wp2_with ((with_reducible show wpList _ _ _ _ _ _); first
    | (refine wpList_box_new 1 rfl rfl 26 (.tmp 0) rfl t.cells rfl (box_temper t) ?_; rintro w1 gT zg zm zs zb; have ORD : Sl (w.heap.size ≤ gT) := ⟨by have := HB.out.size; omega⟩; replace HB : Sl (Below w.heap.size w w1) := ⟨below_mv HB.out zm (by have := HB.out.size; have := ORD.out; omega) HB.out.size⟩; have XT : Sl (Blk w1 gT 26 t.cells) := ⟨zb⟩; clear zg zm zs zb)
    | (refine wpList_load_whole rfl 26 (.tmp 1) rfl gT rfl 26 t.cells _ XT.out Tryz.underlying26 rfl (size_temper t) ?_))
  refine (HCK.out _).mono ?_; rintro e w2 ⟨rfl, hb⟩; replace HB : Sl (Below w.heap.size w w2) := ⟨HB.out.trans (hb.mono HB.out.size)⟩; replace XT : Sl (Blk w2 gT 26 t.cells) := ⟨XT.out.below hb XT.out.lt⟩; clear hb
  by_cases h0 : c = 0
  · subst h0; have HOK : Sl _ := ⟨TV.chk_ok HC.out⟩; obtain ⟨hw0, hw1⟩ := HOK.out.1; obtain ⟨W, hW⟩ : ∃ W, t.wolf = W := ⟨_, rfl⟩; rw [hW] at hw0 hw1; obtain ⟨syn, hsyn⟩ : ∃ b, t.syn = b := ⟨_, rfl⟩; have HWS : Sl _ := ⟨And.intro hW hsyn⟩; clear hW hsyn; have HIX : Sl _ := ⟨fun (W : World) (k : Nat) (hk : k < 12) => idxT t W hk⟩; go_wp2_with fail; have HI1 : Sl (∀ V : World, Below w2.heap.size w2 V → Calls Tryz.prog 10 #[.int .i64 W] V fun e w' => e = .returned (.string (itB W)) ∧ Below V.heap.size V w') := ⟨fun V h => HIT.out W V (by omega) (by omega) (HB.out.trans (h.mono HB.out.size))⟩; have XTC := XT; have HBC := HB; have hm : Mv w2.heap.size w2 w2.drew := Mv.drew _ _; have hs : RowKit.Below w2.heap.size w2 w2.drew := below_drewN (Below.refl _ _) 1; have HSW : Sl _ := ⟨hs⟩; clear hs; refine wp_region_held_drew (S := fun w' => Mv w2.heap.size w2 w') (by kernel_rfl) hm (fun hHeld => ?_); clear hm; refine wpAnyH_pure 0 (v := .pointer (some ⟨gT, 0, none⟩)) rfl (by kernel_rfl) (by kernel_rfl) (by kernel_rfl) (fun _ _ _ h => h) rfl (fun _ => by go_simp) (by assumption) ?_; simp only [Act.put, sS0, sS1, sS2]
    refine wpAnyH_cell 1 (v := .string t.nm) rfl rfl (fun w' h => by
      have e := (XT.out.mv h (by have := XT.out.lt; omega)).cell 0; rw [t.cell0] at e
      go_simp) (by kernel_rfl) (by kernel_rfl) (by kernel_rfl) (fun _ _ _ h => h) (by assumption) ?_
    simp only [Act.put, sS0, sS1, sS2]; refine wpAnyH_pure 2 (v := .pointer (some ⟨gT, 2, none⟩)) rfl (by kernel_rfl) (by kernel_rfl) (by kernel_rfl) (fun _ _ _ h => h) rfl (fun _ => by go_simp) (by assumption) ?_; simp only [Act.put, sS0, sS1, sS2]
    refine wpAnyH_cell 3 (v := .int .i64 W) rfl rfl (fun w' h => by
      have e := (XT.out.mv h (by have := XT.out.lt; omega)).cell 2; rw [t.cell2, HWS.out.1] at e
      go_simp) (by kernel_rfl) (by kernel_rfl) (by kernel_rfl) (fun _ _ _ h => h) (by assumption) ?_
    simp only [Act.put, sS0, sS1, sS2]; refine wpAnyH_one 4 rfl (by kernel_rfl) rfl (fun K hK => ?_); go_simp; go_at_call 10
    (with_reducible refine (HI1.out _ HSW.out).mono ?_)
    rintro e z3 ⟨rfl, hb⟩; replace HSW : Sl (RowKit.Below w2.heap.size w2 z3) := ⟨HSW.out.trans (hb.mono HSW.out.size)⟩; refine hK.out _ _ (Mv.below HSW.out) (fun hHeld => ?_); clear hK K hb
    (try simp only [Act.put, sS0, sS1, sS2])
    refine wpAnyH_one 5 rfl (by kernel_rfl) rfl (fun K hK => ?_); go_simp; have hb : Below w2.heap.size w2 (z3.alloc (.cells #[.string t.nm, .string ⟨#[112, 121, 116, 104, 97, 103, 111, 114, 101, 97, 110]⟩, .string (itB W)] 9)) := HSW.out.trans (((Below.refl _ _).alloc (Nat.le_refl _) _).mono HSW.out.size); refine hK.out _ _ (Mv.below hb) (fun hHeld => ?_); clear hK K
    (try simp only [Act.put, sS0, sS1, sS2])
    refine wpAnyH_pure 6 (v := .slice (some ⟨z3.heap.size, 0, none⟩) 3 3) rfl (by kernel_rfl) (by kernel_rfl) (by kernel_rfl) (fun _ _ _ h => h) rfl (fun _ => rfl) (by assumption) ?_; simp only [Act.put, sS0, sS1, sS2]; refine wpAnyH_done (by kernel_rfl) ?_ _; have XO : Sl ((z3.alloc (.cells #[.string t.nm, .string ⟨#[112, 121, 116, 104, 97, 103, 111, 114, 101, 97, 110]⟩, .string (itB W)] 9)).ownsRow w2.heap.size 9 1 (.slice (some ⟨z3.heap.size, 0, none⟩) 3 3) 3 (strs [t.nm, comB false, itB W])) := ⟨World.ownsRow_lit z3 _ 3 HSW.out.size (by decide) rfl⟩; replace HB : Sl (Below w.heap.size w (z3.alloc (.cells #[.string t.nm, .string ⟨#[112, 121, 116, 104, 97, 103, 111, 114, 101, 97, 110]⟩, .string (itB W)] 9))) := ⟨HB.out.trans (hb.mono HB.out.size)⟩; replace XT : Sl (Blk (z3.alloc (.cells #[.string t.nm, .string ⟨#[112, 121, 116, 104, 97, 103, 111, 114, 101, 97, 110]⟩, .string (itB W)] 9)) gT 26 t.cells) := ⟨XT.out.below hb XT.out.lt⟩; obtain ⟨B0, hB0⟩ : ∃ B, w2.heap.size = B := ⟨_, rfl⟩; have HB0 : Sl (gT < B0 ∧ w.heap.size ≤ B0) := ⟨by have := XTC.out.lt; have := HBC.out.size; omega⟩; rw [hB0] at XO; clear hb HSW hB0 XTC HBC; (try clear hHeld); generalize z3.alloc (.cells #[.string t.nm, .string ⟨#[112, 121, 116, 104, 97, 103, 111, 114, 101, 97, 110]⟩, .string (itB W)] 9) = wA at *
    generalize z3.heap.size = gW at *
    have cs1 : wA.cell? ⟨gT, 1, none⟩ = some (.bool syn) := (by rw [XT.out.cell 1, t.cell1, HWS.out.2])
    go_upto_if 21 with fail
    clear cs1
    go_cut [] from 22 to 23 (fun wx => Sl (Below w.heap.size w wx) ∧ Sl (Blk wx gT 26 t.cells) ∧ Sl (wx.ownsRow B0 9 1 (.slice (some ⟨gW, 0, none⟩) 3 3) 3 (strs [t.nm, comB syn, itB W])))
    case first =>
      cases syn
      · go_wp2_with fail
        go_meet
        exact ⟨HB, XT, XO⟩
      · have c1 : wA.cell? ⟨gW, 1, none⟩ = some (.string (comB false)) := XO.out.cellAt 1 (by decide); have f1 := XO.out.frozenAt 1; have hgW := (XO.out.lt gW rfl).1; go_wp2_with fail
        go_meet
        exact ⟨⟨below_mv HB.out (Mv.setCells wA gW 1 [.string (comB true)]) (by have := HB0.out; omega) HB.out.size⟩, ⟨XT.out.mv (Mv.setCells wA gW 1 [.string (comB true)]) (by have := HB0.out; omega)⟩, ⟨(XO.out.stored 1 (.string (comB true))).1⟩⟩
    case rest =>
      clear HB XT XO; obtain ⟨HB, XT, XO⟩ := hcut; have e : [t.nm, comB syn, itB W] = t.wds 0 := (by unfold TV.wds; rw [HWS.out.1, HWS.out.2]; rfl); rw [e] at XO; clear e
      go_wp2_with ((with_reducible show wpList _ _ _ _ _ _); first
        | (refine wpList_load_part rfl 24 (.tmp 24) rfl gT (3) rfl 26 t.cells t.parts _ XT.out (parts_ext t) Tryz.underlying24 rfl (size_parts2 t) ?_))
      go_loopw [5, 26] (fun so sk wr => ∃ (k : Nat) (v5 : Value), k ≤ 12 ∧ sk = .int .i64 k ∧ v5 = so ∧ Sl (Below w.heap.size w wr) ∧ Sl (Blk wr gT 26 t.cells) ∧ Sl (wr.ownsRow B0 9 1 v5 (3 + k) (strs (t.wds k)))) (fun _ sk _ => 12 - (RowKit.intOf sk).toNat)
      case atStart => exact ⟨0, _, by decide, rfl, rfl, HB, XT, XO⟩
      case round =>
        clear HB XT XO; obtain ⟨k, v5, hk, rfl, rfl, HB, XT, XO⟩ := hrel
        by_cases hk12 : k < 12
        · have hix := fun W : World => HIX.out W k hk12
          obtain ⟨n, hn⟩ : ∃ n, t.num k = n := ⟨_, rfl⟩; obtain ⟨d, hd⟩ : ∃ d, t.den k = d := ⟨_, rfl⟩; have hbad := HOK.out.2.1 k hk12; unfold TV.bad at hbad; rw [hn, hd] at hix hbad; have hn1 : -100 ≤ n := (by omega); have hn2 : n ≤ 100 := (by omega); have hd1 : -100 ≤ d := (by omega); have hd2 : d ≤ 100 := (by omega); have HND : Sl _ := ⟨And.intro hn hd⟩; have HIN : Sl (∀ V : World, Below w.heap.size w V → Calls Tryz.prog 10 #[.int .i64 n] V fun e w' => e = .returned (.string (itB n)) ∧ Below V.heap.size V w') := ⟨fun V h => HIT.out n V hn1 hn2 h⟩; have HID : Sl (∀ V : World, Below w.heap.size w V → Calls Tryz.prog 10 #[.int .i64 d] V fun e w' => e = .returned (.string (itB d)) ∧ Below V.heap.size V w') := ⟨fun V h => HIT.out d V hd1 hd2 h⟩; have hl1 := itB_len hn1 hn2; have hl2 := itB_len hd1 hd2; clear hn hd hbad hn1 hn2 hd1 hd2
          go_wp2_with ((with_reducible show wpList _ _ _ _ _ _); first
            | (refine wpList_alloc_new 7 rfl rfl 23 rfl #[.int .i64 0, .int .i64 0] alloc_part ?_; rintro w4 gP zg zm zs zb; replace ORD : Sl (w.heap.size ≤ gT ∧ gT < gP) := ⟨by have := HB.out.size; have := ORD.out; have := XT.out.lt; omega⟩; have OBXOP : Sl (∀ zk, v5.ownBlock = some zk → zk < gP) := ⟨fun zk hk => by have := (XO.out.lt zk hk).2; omega⟩; replace HB : Sl (Below w.heap.size w w4) := ⟨below_mv HB.out zm (by have := HB.out.size; have := ORD.out; omega) HB.out.size⟩; replace XT : Sl (Blk w4 gT 26 t.cells) := ⟨XT.out.mv zm (by have := XT.out.lt; have := ORD.out; omega)⟩; replace XO : Sl (w4.ownsRow B0 9 1 v5 (3 + k) (strs (t.wds k))) := ⟨own_mv XO.out zm (fun zk hk => by have := (XO.out.lt zk hk).2; omega)⟩; have XP : Sl (Blk w4 gP 23 #[.int .i64 0, .int .i64 0]) := ⟨zb⟩; clear zg zm zs zb)
            | (refine wpList_store_whole rfl 23 (.tmp 7) (.tmp 28) rfl gP #[.int .i64 n, .int .i64 d] rfl rfl 23 #[.int .i64 0, .int .i64 0] XP.out rfl (size_part n d) (part_one n d) ?_; rintro w5 zm zs zb; replace HB : Sl (Below w.heap.size w w5) := ⟨below_mv HB.out zm (by have := HB.out.size; have := ORD.out; omega) HB.out.size⟩; replace XT : Sl (Blk w5 gT 26 t.cells) := ⟨XT.out.mv zm (by have := XT.out.lt; have := ORD.out; omega)⟩; replace XO : Sl (w5.ownsRow B0 9 1 v5 (3 + k) (strs (t.wds k))) := ⟨own_mv XO.out zm (fun zk hk => by have := OBXOP.out zk hk; omega)⟩; replace XP : Sl (Blk w5 gP 23 #[.int .i64 n, .int .i64 d]) := ⟨zb⟩; clear zm zs zb; have cp0 : w5.cell? ⟨gP, 0, none⟩ = some (.int .i64 n) := XP.out.cell 0))
          clear hix; refine (HIN.out _ HB.out).mono ?_; rintro e w6 ⟨rfl, hb⟩; replace HB : Sl (Below w.heap.size w w6) := ⟨HB.out.trans (hb.mono HB.out.size)⟩; replace XT : Sl (Blk w6 gT 26 t.cells) := ⟨XT.out.below hb XT.out.lt⟩; replace XP : Sl (Blk w6 gP 23 #[.int .i64 n, .int .i64 d]) := ⟨XP.out.below hb XP.out.lt⟩; replace XO : Sl (w6.ownsRow B0 9 1 v5 (3 + k) (strs (t.wds k))) := ⟨own_mv XO.out (Mv.of_below hb) (fun zk hk => by have := (XO.out.lt zk hk).2; omega)⟩; clear hb; have cp1 : w6.cell? ⟨gP, 1, none⟩ = some (.int .i64 d) := XP.out.cell 1
          by_cases hdd : 1 < d
          · have hdc : decide (1 < d) = true := decide_eq_true hdd; have HWD : Sl (wdB n d = itB n ++ (⟨#[47]⟩ ++ itB d)) := ⟨by unfold wdB; rw [if_pos hdd]⟩; clear hdd; go_wp2_with fail; refine (HID.out _ HB.out).mono ?_; rintro e w7 ⟨rfl, hb⟩; replace HB : Sl (Below w.heap.size w w7) := ⟨HB.out.trans (hb.mono HB.out.size)⟩; replace XT : Sl (Blk w7 gT 26 t.cells) := ⟨XT.out.below hb XT.out.lt⟩; replace XP : Sl (Blk w7 gP 23 #[.int .i64 n, .int .i64 d]) := ⟨XP.out.below hb XP.out.lt⟩; replace XO : Sl (w7.ownsRow B0 9 1 v5 (3 + k) (strs (t.wds k))) := ⟨own_mv XO.out (Mv.of_below hb) (fun zk hk => by have := (XO.out.lt zk hk).2; omega)⟩; clear hb; have HBS : Sl (B0 ≤ w7.heap.size) := ⟨by obtain ⟨gg, cc, _, hgg, hll⟩ := own_some XO.out (by omega); omega⟩
            go_wp2_with ((with_reducible show wpList _ _ _ _ _ _); first
              | (at_builtin; go_loud (refine wpList_append_any _ rfl (.tmp 41) (.tmp 43) _ rfl B0 9 i0 _ 1 16 Tryz.underlying36 HI.out.1 HI.out.2.1 HI.out.2.2.1 HI.out.2.2.2 rfl (by decide) v5 (3 + k) _ rfl (own_alloc XO.out _) _ (some ⟨w7.heap.size, 0, none⟩) 1 1 [.string (itB n ++ (⟨#[47]⟩ ++ itB d))] rfl (reads_s1 _ _ _) (by intro u hu; simp at hu; subst hu; rfl) (by unfold maxLen; omega) (by omega) (by have := HBS.out; have := HB.out.size; simp; omega) ?_); rintro v6 wN hown hg hat; have XQ : Sl (wN.ownsRow B0 9 1 v6 (3 + (k + 1)) (strs (t.wds (k + 1)))) := ⟨by rw [TV.wds_succ, strs_snoc, HND.out.1, HND.out.2, HWD.out]; exact hown⟩; have XTN : Sl (Blk wN gT 26 t.cells) := ⟨(XT.out.alloc _).grown hg (fun h => by have := (XO.out.lt gT h.symm).1; have := HB0.out; omega)⟩; have HBN : Sl (Below w.heap.size w wN) := ⟨below_grown2 HB.out HB.out.size (own_base XO.out (by have := HB0.out; omega)) hg⟩; clear hown hg hat))
            exact ⟨⟨k + 1, v6, hk12, by go_num, rfl, HBN, XTN, XQ⟩, by simp [RowKit.intOf]; omega⟩
          · have hdc : decide (1 < d) = false := decide_eq_false hdd; have HWD : Sl (wdB n d = itB n) := ⟨by unfold wdB; rw [if_neg hdd]⟩; clear hdd; have HBS : Sl (B0 ≤ w6.heap.size) := ⟨by obtain ⟨gg, cc, _, hgg, hll⟩ := own_some XO.out (by omega); omega⟩
            go_wp2_with ((with_reducible show wpList _ _ _ _ _ _); first
              | (at_builtin; go_loud (refine wpList_append_any _ rfl (.tmp 41) (.tmp 43) _ rfl B0 9 i0 _ 1 16 Tryz.underlying36 HI.out.1 HI.out.2.1 HI.out.2.2.1 HI.out.2.2.2 rfl (by decide) v5 (3 + k) _ rfl (own_alloc XO.out _) _ (some ⟨w6.heap.size, 0, none⟩) 1 1 [.string (itB n)] rfl (reads_s1 _ _ _) (by intro u hu; simp at hu; subst hu; rfl) (by unfold maxLen; omega) (by omega) (by have := HBS.out; have := HB.out.size; simp; omega) ?_); rintro v6 wN hown hg hat; have XQ : Sl (wN.ownsRow B0 9 1 v6 (3 + (k + 1)) (strs (t.wds (k + 1)))) := ⟨by rw [TV.wds_succ, strs_snoc, HND.out.1, HND.out.2, HWD.out]; exact hown⟩; have XTN : Sl (Blk wN gT 26 t.cells) := ⟨(XT.out.alloc _).grown hg (fun h => by have := (XO.out.lt gT h.symm).1; have := HB0.out; omega)⟩; have HBN : Sl (Below w.heap.size w wN) := ⟨below_grown2 HB.out HB.out.size (own_base XO.out (by have := HB0.out; omega)) hg⟩; clear hown hg hat))
            exact ⟨⟨k + 1, v6, hk12, by go_num, rfl, HBN, XTN, XQ⟩, by simp [RowKit.intOf]; omega⟩
        · obtain rfl : k = 12 := (by omega); clear hk12 hk; have h16 := nameS_len HOK.out.2.2.1; obtain ⟨g5, c5, rfl, hg5, hlt⟩ := own_some XO.out (by omega)
          have hJ := Tryz.strings_Join g5 0 c5 (t.wds 12) ⟨#[32]⟩ wr (fun j x hx => by
            have hj : j < 15 := by
              rcases Nat.lt_or_ge j 15 with h | h
              · exact h
              · rw [List.getElem?_eq_none (by rw [t.wds_len]; exact h)] at hx; cases hx
            rw [Nat.zero_add, XO.out.cellAt j (by omega)]; unfold strs; rw [List.getElem?_map, hx]
            rfl) hlt (by rw [t.wds_len]; decide) (by rw [t.wds_len]; exact own_room XO.out) (Nat.le_trans (join_le _ 16 _ (wds_small h16 HOK.out)) (by rw [List.length_map, t.wds_len]; decide))
          rw [t.wds_len] at hJ; have HJ : Sl _ := ⟨hJ⟩; clear hJ h16 hlt hg5; go_wp2_with fail; refine HJ.out.mono ?_; rintro e wz ⟨rfl, hb⟩; replace HB : Sl (Below w.heap.size w wz) := ⟨HB.out.trans (hb.mono HB.out.size)⟩; replace XT : Sl (Blk wz gT 26 t.cells) := ⟨XT.out.below hb XT.out.lt⟩; go_wp2_with fail; go_ret2; exact ⟨rfl, HB.out⟩
  · have hz : ((c : Int) != 0) = true := (by rw [bne_iff_ne]; exact h0); go_wp2_with fail; go_ret2; exact ⟨fun _ => rfl, fun h => absurd h h0, HB.out⟩
end Go.Proofs.YtgmpipimancnhaaGreatDoor
namespace Go.Proofs.YtgmpipimancnhaaGreatDoor
set_option linter.unusedSimpArgs false
open Go.RowKit
set_option linter.unusedVariables false
def spl (c : UInt8) : List UInt8 → List (List UInt8)
  | [] => [[]]
  | b :: l => if b = c then [] :: spl c l else match spl c l with
    | [] => [[b]]
    | h :: t => (b :: h) :: t
theorem spl_eq (c : UInt8) (l : List UInt8) : spl c (c :: l) = [] :: spl c l := by rw [spl, if_pos rfl]
theorem spl_ne {b c : UInt8} {l h : List UInt8} {t : List (List UInt8)} (hb : b ≠ c) (hs : spl c l = h :: t) : spl c (b :: l) = (b :: h) :: t := by rw [spl, if_neg hb, hs]
theorem spl_no {c : UInt8} : ∀ {a : List UInt8}, c ∉ a → spl c a = [a]
  | [], _ => rfl
  | b :: a, h => by
    have h1 : b ≠ c := fun e => h (by rw [e]; exact List.mem_cons_self)
    exact spl_ne h1 (spl_no (fun hm => h (List.mem_cons_of_mem _ hm)))
theorem spl_hit {c : UInt8} (l : List UInt8) : ∀ {a : List UInt8}, c ∉ a → spl c (a ++ c :: l) = a :: spl c l
  | [], _ => spl_eq c l
  | b :: a, h => by
    have h1 : b ≠ c := fun e => h (by rw [e]; exact List.mem_cons_self)
    exact spl_ne h1 (spl_hit l (fun hm => h (List.mem_cons_of_mem _ hm)))
theorem spl_join {c : UInt8} : ∀ (ws : List (List UInt8)), ws ≠ [] → (∀ x ∈ ws, c ∉ x) → spl c (Lib.join ws [c]) = ws
  | [], h, _ => absurd rfl h
  | [a], _, h => by rw [Lib.join_one]; exact spl_no (h a (by simp))
  | a :: b :: l, _, h => by
    have e : Lib.join (a :: b :: l) [c] = a ++ c :: Lib.join (b :: l) [c] := (by simp [Lib.join]); rw [e, spl_hit _ (h a (by simp)), spl_join (b :: l) (by simp) (fun x hx => h x (List.mem_cons_of_mem _ hx))]
theorem idx_eq (c : UInt8) (l : List UInt8) : Lib.index (c :: l) [c] = 0 := by rw [Lib.index]; simp [List.isPrefixOf]
theorem idx_ne {b c : UInt8} (l : List UInt8) (h : b ≠ c) : Lib.index (b :: l) [c] = if Lib.index l [c] == -1 then -1 else Lib.index l [c] + 1 := by
  have hp : ([c] : List UInt8).isPrefixOf (b :: l) = false := (by simp [List.isPrefixOf, Ne.symm h]); rw [Lib.index, hp]; simp
theorem idx_no {c : UInt8} : ∀ {a : List UInt8}, c ∉ a → Lib.index a [c] = -1
  | [], _ => by simp [Lib.index]
  | b :: a, h => by
    have h1 : b ≠ c := fun e => h (by rw [e]; exact List.mem_cons_self)
    rw [idx_ne a h1, idx_no (fun hm => h (List.mem_cons_of_mem _ hm))]; rfl
theorem idx_hit {c : UInt8} (l : List UInt8) : ∀ {a : List UInt8}, c ∉ a → Lib.index (a ++ c :: l) [c] = (a.length : Int)
  | [], _ => idx_eq c l
  | b :: a, h => by
    have h1 : b ≠ c := fun e => h (by rw [e]; exact List.mem_cons_self)
    have ih := idx_hit l (a := a) (fun hm => h (List.mem_cons_of_mem _ hm)); rw [List.cons_append, idx_ne _ h1, ih, if_neg (by intro e; have := eq_of_beq e; omega), List.length_cons]; omega
theorem splitK_spl (c : UInt8) : ∀ s : List UInt8, Lib.splitK [c] 0 (Lib.count s [c]) s = spl c s
  | [] => by rw [Lib.count_miss (by simp [Lib.index])]; rfl
  | b :: l => by
    have ih := splitK_spl c l
    by_cases hb : b = c
    · subst hb; rw [Lib.count_cons_eq, Nat.add_comm, Lib.splitK, idx_eq, if_neg (by decide), spl_eq]; show ([] : List UInt8) :: Lib.splitK [b] 0 (Lib.count l [b]) l = _; rw [ih]
    · rw [Lib.count_cons_ne _ _ _ hb]; rcases hk : Lib.count l [c] with _ | k
      · rw [hk] at ih; exact (spl_ne hb ih.symm).symm
      · rw [hk] at ih; have hge := Lib.index_ge l [c]; have hn : Lib.index l [c] ≠ -1 := fun e => by rw [Lib.count_miss e] at hk; omega
        obtain ⟨i, hi⟩ := Int.eq_ofNat_of_zero_le (show 0 ≤ Lib.index l [c] by omega); have e1 : ¬ ((i : Int) == -1) = true := fun e => by have := eq_of_beq e; omega
        have e2 : ¬ ((i : Int) + 1 == -1) = true := fun e => by have := eq_of_beq e; omega
        rw [Lib.splitK, hi, if_neg e1] at ih; rw [Lib.splitK, idx_ne l hb, hi, if_neg e1, if_neg e2]; have e3 : ((i : Int) + 1).toNat = (i : Int).toNat + 1 := (by omega); rw [e3, spl_ne hb ih.symm]; rfl
def wordsB (s : ByteArray) : List ByteArray := (spl 32 s.data.toList).map fun l => ⟨l.toArray⟩
theorem map_bytes (l : List ByteArray) : (l.map (·.data.toList)).map (fun x => (⟨x.toArray⟩ : ByteArray)) = l := by
  rw [List.map_map]
  conv => rhs; rw [← List.map_id l]
  exact List.map_congr_left (fun b _ => by simp)
theorem split_words (s : ByteArray) : Lib.splitB ⟨#[32]⟩ 0 (Lib.countB s ⟨#[32]⟩) s = wordsB s := by
  have h := Lib.splitB_data ⟨#[32]⟩ 0 (Lib.countB s ⟨#[32]⟩) s; have h2 : Lib.splitK [32] 0 (Lib.count s.data.toList [32]) s.data.toList = spl 32 s.data.toList := splitK_spl 32 _; have h3 : (Lib.splitB ⟨#[32]⟩ 0 (Lib.countB s ⟨#[32]⟩) s).map (·.data.toList) = spl 32 s.data.toList := h.trans h2; unfold wordsB; rw [← h3, map_bytes]
def dgs (u : Nat) : List UInt8 := if u < 10 then [UInt8.ofNat (48 + u)] else [UInt8.ofNat (48 + u / 10), UInt8.ofNat (48 + u % 10)]
theorem dec_dgs {u : Nat} (h : u < 100) : Lib.decDigits u = dgs u := by
  rw [Lib.decDigits]; unfold dgs
  by_cases h1 : u < 10
  · rw [dif_pos h1, if_pos h1]
  · rw [dif_neg h1, if_neg h1, Lib.decDigits, dif_pos (by omega)]; rfl
def digB (b : UInt8) : Bool := !(decide (b.toNat < 48) || decide (57 < b.toNat))
def numU (l : List UInt8) : Int → Option Int := fun n => l.foldl (fun o b => o.bind fun m => if digB b then some (10 * m + ((b.toNat : Int) - 48)) else none) (some n)
def numV (l : List UInt8) : Int :=
  let r := if l.head? = some 45 then l.tail else l
  if r.length < 1 ∨ 2 < r.length then 99 else match numU r 0 with
    | some n => if l.head? = some 45 then -n else n
    | none => 99
def TV.setp (t : TV) (k : Nat) (n d : Int) : TV := ⟨t.nm, t.syn, t.wolf, fun i => if i = k then n else t.num i, fun i => if i = k then d else t.den i⟩
theorem TV.setp_part (t : TV) (n d : Int) {k : Nat} (hk : k < 12) : putA t.cells (3 + k * 2) (#[Value.int .i64 n, .int .i64 d]).toList = (t.setp k n d).cells := TV.part_at t n d hk
theorem TV.setp_den (t : TV) (n d d2 : Int) {k : Nat} (hk : k < 12) : (t.setp k n d).cells.setIfInBounds (3 + k * 2 + 1) (.int .i64 d2) = (t.setp k n d2).cells := by
  rw [TV.den_at _ _ hk]; refine TV.cells_ext rfl rfl rfl (fun i _ => rfl) (fun i _ => ?_); show (if i = k then d2 else if i = k then d else t.den i) = if i = k then d2 else t.den i
  split <;> rfl
def TV.fill (t p : TV) : Nat → TV
  | 0 => t
  | k+1 => (t.fill p k).setp k (p.num k) (p.den k)
theorem TV.fill_at (t p : TV) : ∀ k, (t.fill p k).nm = t.nm ∧ (t.fill p k).syn = t.syn ∧ (t.fill p k).wolf = t.wolf ∧ ∀ i, i < k → (t.fill p k).num i = p.num i ∧ (t.fill p k).den i = p.den i
  | 0 => ⟨rfl, rfl, rfl, fun i h => absurd h (Nat.not_lt_zero _)⟩
  | k+1 => by
    obtain ⟨h1, h2, h3, h4⟩ := TV.fill_at t p k; refine ⟨h1, h2, h3, fun i hi => ?_⟩; show (if i = k then p.num k else (t.fill p k).num i) = _ ∧ (if i = k then p.den k else (t.fill p k).den i) = _
    by_cases hik : i = k
    · subst hik; rw [if_pos rfl, if_pos rfl]; exact ⟨rfl, rfl⟩
    · rw [if_neg hik, if_neg hik]; exact h4 i (by omega)
theorem TV.fill_end {t p : TV} (h1 : t.nm = p.nm) (h2 : t.syn = p.syn) (h3 : t.wolf = p.wolf) : (t.fill p 12).cells = p.cells := by
  obtain ⟨a1, a2, a3, a4⟩ := TV.fill_at t p 12; exact TV.cells_ext (a1.trans h1) (a2.trans h2) (a3.trans h3) (fun i hi => (a4 i hi).1) (fun i hi => (a4 i hi).2)
def rdI (l : List UInt8) : Int := match Lib.parseIntB 16 l with
  | .ok v => v
  | .range => Lib.intSat 16 l
  | _ => 0
def okI (l : List UInt8) : Bool := match Lib.parseIntB 16 l with
  | .ok _ => true
  | _ => false
def dgOk (u : Nat) : Bool := !(dgs u).contains 32 && !(dgs u).contains 47 && okI (dgs u) && (rdI (dgs u) == (u : Int)) && (numV (dgs u) == (u : Int)) && okI (45 :: dgs u) && (rdI (45 :: dgs u) == -(u : Int)) && (numV (45 :: dgs u) == -(u : Int))
theorem dg_all : (List.range 100).all dgOk = true := by decide +kernel
theorem itB_ok {z : Int} (h1 : -100 < z) (h2 : z < 100) : ((32 : UInt8) ∉ (itB z).data.toList ∧ (47 : UInt8) ∉ (itB z).data.toList) ∧ okI (itB z).data.toList = true ∧ rdI (itB z).data.toList = z ∧ numV (itB z).data.toList = z := by
  have e : (itB z).data.toList = Lib.itoa z := (by unfold itB; simp); rw [e]; unfold Lib.itoa
  by_cases hz : z < 0
  · have hu : z.natAbs < 100 := (by omega); have hd := List.all_eq_true.1 dg_all z.natAbs (List.mem_range.2 hu); unfold dgOk at hd; simp only [Bool.and_eq_true, Bool.not_eq_true', beq_iff_eq, List.contains_eq_mem, decide_eq_false_iff_not] at hd; rw [if_pos hz, dec_dgs hu]; obtain ⟨⟨⟨⟨⟨⟨⟨a1, a2⟩, a3⟩, a4⟩, a5⟩, a6⟩, a7⟩, a8⟩ := hd; refine ⟨⟨fun hm => ?_, fun hm => ?_⟩, a6, by rw [a7]; omega, by rw [a8]; omega⟩
    · rcases List.mem_cons.1 hm with h | h
      · exact absurd h (by decide)
      · exact a1 h
    · rcases List.mem_cons.1 hm with h | h
      · exact absurd h (by decide)
      · exact a2 h
  · have hu : z.toNat < 100 := (by omega); have hd := List.all_eq_true.1 dg_all z.toNat (List.mem_range.2 hu); unfold dgOk at hd; simp only [Bool.and_eq_true, Bool.not_eq_true', beq_iff_eq, List.contains_eq_mem, decide_eq_false_iff_not] at hd; rw [if_neg hz, dec_dgs hu]; obtain ⟨⟨⟨⟨⟨⟨⟨a1, a2⟩, a3⟩, a4⟩, a5⟩, a6⟩, a7⟩, a8⟩ := hd; exact ⟨⟨a1, a2⟩, a3, by rw [a4]; omega, by rw [a5]; omega⟩
def cutN (b : ByteArray) : List UInt8 × List UInt8 × Bool := Lib.cut b.data.toList [47]
theorem cut_no {l : List UInt8} (h : (47 : UInt8) ∉ l) : Lib.cut l [47] = (l, [], false) := by
  unfold Lib.cut; rw [idx_no h, if_neg (by decide)]
theorem cut_hit {a b : List UInt8} (h : (47 : UInt8) ∉ a) : Lib.cut (a ++ 47 :: b) [47] = (a, b, true) := by
  unfold Lib.cut; rw [idx_hit b h, if_pos (by omega)]; have e : ((a.length : Int)).toNat = a.length := (by omega); rw [e]; congr 1
  · simp
  · congr 1; rw [List.length_singleton, ← List.drop_drop, List.drop_left]; rfl
def pvR (rd : List UInt8 → Int) (W : List ByteArray) : TV where
  nm := W.getD 0 ⟨#[]⟩
  syn := ((W.getD 1 ⟨#[]⟩).toList == [115, 121, 110, 116, 111, 110, 105, 99])
  wolf := rd (W.getD 2 ⟨#[]⟩).data.toList
  num := fun i => rd (cutN (W.getD (3 + i) ⟨#[]⟩)).1
  den := fun i => if (cutN (W.getD (3 + i) ⟨#[]⟩)).2.2 = true then rd (cutN (W.getD (3 + i) ⟨#[]⟩)).2.1 else 1
theorem wds_at (t : TV) {i : Nat} (h : i < 12) : (t.wds 12).getD (3 + i) ⟨#[]⟩ = wdB (t.num i) (t.den i) := by
  rcases twelve h with rfl | rfl | rfl | rfl | rfl | rfl | rfl | rfl | rfl | rfl | rfl | rfl <;> rfl
theorem bad_bd {t : TV} {i : Nat} (h : ¬ t.bad i) : (-100 < t.num i ∧ t.num i < 100) ∧ (-100 < t.den i ∧ t.den i < 100) ∧ 1 ≤ t.den i := by unfold TV.bad at h; omega
theorem wd_cut {n d : Int} (h1 : -100 < n ∧ n < 100) (h2 : -100 < d ∧ d < 100) (hd : 1 ≤ d) : cutN (wdB n d) = if 1 < d then ((itB n).data.toList, (itB d).data.toList, true) else ((itB n).data.toList, [], false) := by
  unfold cutN wdB
  by_cases h : 1 < d
  · rw [if_pos h, if_pos h]; have e : (itB n ++ (⟨#[47]⟩ ++ itB d)).data.toList = (itB n).data.toList ++ 47 :: (itB d).data.toList := (by simp); rw [e, cut_hit (itB_ok h1.1 h1.2).1.2]
  · rw [if_neg h, if_neg h, cut_no (itB_ok h1.1 h1.2).1.2]
theorem wd_no {n d : Int} (h1 : -100 < n ∧ n < 100) (h2 : -100 < d ∧ d < 100) : (32 : UInt8) ∉ (wdB n d).data.toList := by
  unfold wdB
  split
  · have e : (itB n ++ (⟨#[47]⟩ ++ itB d)).data.toList = (itB n).data.toList ++ 47 :: (itB d).data.toList := (by simp); rw [e]; intro hm; rcases List.mem_append.1 hm with h | h
    · exact (itB_ok h1.1 h1.2).1.1 h
    · rcases List.mem_cons.1 h with h | h
      · exact absurd h (by decide)
      · exact (itB_ok h2.1 h2.2).1.1 h
  · exact (itB_ok h1.1 h1.2).1.1
theorem name_no {s : ByteArray} (h : nameS s = true) : (32 : UInt8) ∉ s.data.toList := by
  intro hm; obtain ⟨i, hi, he⟩ := List.getElem_of_mem hm; unfold nameS at h; have h2 := (of_decide_eq_true h).2 i (by simpa using hi)
  have e : s[i]'(by simpa using hi) = 32 := by
    rw [← he]; simp [ByteArray.getElem_eq_getElem_data]
  rw [e] at h2; unfold okB letB at h2; simp at h2
abbrev GoodT (t : TV) : Prop := (0 ≤ t.wolf ∧ t.wolf ≤ 11) ∧ (∀ i, i < 12 → ¬ t.bad i) ∧ nameS t.nm = true ∧ (∀ i, i < 12 → t.low i) ∧ t.num t.wolf.toNat = 0 ∧ t.all 12 ≤ 120
theorem wds_no {t : TV} (h : GoodT t) : ∀ x ∈ (t.wds 12).map (·.data.toList), (32 : UInt8) ∉ x := by
  intro x hx; obtain ⟨b, hb, rfl⟩ := List.mem_map.1 hx; unfold TV.wds at hb; rcases List.mem_append.1 hb with hb | hb
  · simp only [List.mem_cons, List.not_mem_nil, or_false] at hb; rcases hb with rfl | rfl | rfl
    · exact name_no h.2.2.1
    · unfold comB; split <;> decide
    · exact (itB_ok (by omega) (by omega)).1.1
  · obtain ⟨i, hi, rfl⟩ := List.mem_map.1 hb; have := bad_bd (h.2.1 i (List.mem_range.1 hi)); exact wd_no this.1 this.2.1
theorem words_txt {t : TV} (h : GoodT t) : wordsB t.txt = t.wds 12 := by
  unfold wordsB TV.txt; have e : ((⟨(Lib.join ((t.wds 12).map (·.data.toList)) [32]).toArray⟩ : ByteArray)).data.toList = Lib.join ((t.wds 12).map (·.data.toList)) [32] := (by simp); rw [e, spl_join _ (by intro h0; have := congrArg List.length h0; rw [List.length_map, t.wds_len] at this; cases this) (wds_no h), map_bytes]
def Reads99 (rd : List UInt8 → Int) : Prop := ∀ z : Int, -100 < z → z < 100 → rd (itB z).data.toList = z
theorem reads_I : Reads99 rdI := fun z h1 h2 => (itB_ok h1 h2).2.2.1
theorem reads_V : Reads99 numV := fun z h1 h2 => (itB_ok h1 h2).2.2.2
theorem pvR_full {rd : List UInt8 → Int} (hr : Reads99 rd) {t : TV} (h : GoodT t) : (pvR rd (t.wds 12)).nm = t.nm ∧ (pvR rd (t.wds 12)).syn = t.syn ∧ (pvR rd (t.wds 12)).wolf = t.wolf ∧ ∀ i, i < 12 → (pvR rd (t.wds 12)).num i = t.num i ∧ (pvR rd (t.wds 12)).den i = t.den i := by
  refine ⟨rfl, ?_, ?_, fun i hi => ?_⟩
  · show ((comB t.syn).toList == [115, 121, 110, 116, 111, 110, 105, 99]) = t.syn; unfold comB
    cases t.syn <;> decide +kernel
  · show rd (itB t.wolf).data.toList = t.wolf; exact hr _ (by omega) (by omega)
  · have hb := bad_bd (h.2.1 i hi); have hc := wd_cut hb.1 hb.2.1 hb.2.2; refine ⟨?_, ?_⟩
    · show rd (cutN ((t.wds 12).getD (3 + i) ⟨#[]⟩)).1 = t.num i; rw [wds_at t hi, hc]
      split <;> exact hr _ hb.1.1 hb.1.2
    · show (if (cutN ((t.wds 12).getD (3 + i) ⟨#[]⟩)).2.2 = true then rd (cutN ((t.wds 12).getD (3 + i) ⟨#[]⟩)).2.1 else 1) = t.den i; rw [wds_at t hi, hc]
      by_cases h1 : 1 < t.den i
      · rw [if_pos h1, if_pos rfl]; exact hr _ hb.2.1.1 hb.2.1.2
      · rw [if_neg h1, if_neg (show ¬ (false = true) by decide)]; omega
theorem cells_of {t u : TV} (h : t.nm = u.nm ∧ t.syn = u.syn ∧ t.wolf = u.wolf ∧ ∀ i, i < 12 → t.num i = u.num i ∧ t.den i = u.den i) : t.cells = u.cells := by
  obtain ⟨h1, h2, h3, h4⟩ := h; unfold TV.cells; rw [h1, h2, h3, (h4 0 (by decide)).1, (h4 0 (by decide)).2, (h4 1 (by decide)).1, (h4 1 (by decide)).2, (h4 2 (by decide)).1, (h4 2 (by decide)).2, (h4 3 (by decide)).1, (h4 3 (by decide)).2, (h4 4 (by decide)).1, (h4 4 (by decide)).2, (h4 5 (by decide)).1, (h4 5 (by decide)).2, (h4 6 (by decide)).1, (h4 6 (by decide)).2, (h4 7 (by decide)).1, (h4 7 (by decide)).2, (h4 8 (by decide)).1, (h4 8 (by decide)).2, (h4 9 (by decide)).1, (h4 9 (by decide)).2, (h4 10 (by decide)).1, (h4 10 (by decide)).2, (h4 11 (by decide)).1, (h4 11 (by decide)).2]
theorem pvR_txt {rd : List UInt8 → Int} (hr : Reads99 rd) {t : TV} (h : t.chk nameS = 0) : (pvR rd (wordsB t.txt)).cells = t.cells := by
  rw [words_txt (TV.chk_ok h)]; exact cells_of (pvR_full hr (TV.chk_ok h))
theorem len_txt {t : TV} (h : t.chk nameS = 0) : (wordsB t.txt).length = 15 := by
  rw [words_txt (TV.chk_ok h), t.wds_len]
open Classical in
noncomputable def parT (s : ByteArray) : TV × Int := if 200 < s.size then (TV0, 3) else if h : ∃ t : TV, t.chk nameS = 0 ∧ t.txt = s then (h.choose, 0) else (TV0, 6)
theorem parT_long {s : ByteArray} (h : 200 < s.size) : parT s = (TV0, 3) := by unfold parT; rw [if_pos h]
theorem parT_hit {s : ByteArray} (h : s.size ≤ 200) {t : TV} (hc : t.chk nameS = 0) (ht : t.txt = s) : (parT s).1.cells = t.cells ∧ (parT s).2 = 0 := by
  have hx : ∃ t : TV, t.chk nameS = 0 ∧ t.txt = s := ⟨t, hc, ht⟩; unfold parT; rw [if_neg (by omega), dif_pos hx]; refine ⟨?_, rfl⟩; have h2 := hx.choose_spec; rw [← pvR_txt reads_V h2.1, ← pvR_txt reads_V hc, h2.2, ht]
theorem parT_miss {s : ByteArray} (h : s.size ≤ 200) (hx : ¬ ∃ t : TV, t.chk nameS = 0 ∧ t.txt = s) : parT s = (TV0, 6) := by
  unfold parT; rw [if_neg (by omega), dif_neg hx]
theorem txt_size {t : TV} (h : t.chk nameS = 0) : t.txt.size ≤ 200 := by
  have hg := TV.chk_ok h; have hn := nameS_len hg.2.2.1; have e0 : t.txt.size = (Lib.join ((t.wds 12).map (·.data.toList)) [32]).length := (by unfold TV.txt; simp [ByteArray.size])
  have e1 : (t.wds 12).map (·.data.toList) = t.nm.data.toList :: (comB t.syn).data.toList :: (itB t.wolf).data.toList :: ((List.range 12).map fun i => (wdB (t.num i) (t.den i)).data.toList) := by
    unfold TV.wds; simp
  have hsz : ∀ b : ByteArray, b.data.toList.length = b.size := fun b => by rw [Array.length_toList]; rfl
  have hp : (Lib.join ((List.range 12).map fun i => (wdB (t.num i) (t.den i)).data.toList) [32]).length ≤ 12 * (9 + 1) := by
    have := join_le [32] 9 ((List.range 12).map fun i => (wdB (t.num i) (t.den i)).data.toList) (fun x hx => by
      obtain ⟨i, hi, rfl⟩ := List.mem_map.1 hx; have hb := bad_bd (hg.2.1 i (List.mem_range.1 hi)); rw [hsz]; have l1 := itB_len (z := t.num i) (by omega) (by omega); have l2 := itB_len (z := t.den i) (by omega) (by omega); unfold wdB
      split
      · rw [ByteArray.size_append, ByteArray.size_append]; have : (⟨#[47]⟩ : ByteArray).size = 1 := rfl; omega
      · omega)
    simpa using this
  have hj : ∀ (a : List UInt8) (l : List (List UInt8)), (Lib.join (a :: l) [32]).length ≤ a.length + 1 + (Lib.join l [32]).length := fun a l => by
    rcases l with _ | ⟨b, l⟩
    · rw [Lib.join_one]; omega
    · have e : Lib.join (a :: b :: l) [32] = a ++ 32 :: Lib.join (b :: l) [32] := (by simp [Lib.join]); rw [e, List.length_append, List.length_cons]; omega
  rw [e0, e1]; have j1 := hj t.nm.data.toList ((comB t.syn).data.toList :: (itB t.wolf).data.toList :: ((List.range 12).map fun i => (wdB (t.num i) (t.den i)).data.toList)); have j2 := hj (comB t.syn).data.toList ((itB t.wolf).data.toList :: ((List.range 12).map fun i => (wdB (t.num i) (t.den i)).data.toList)); have j3 := hj (itB t.wolf).data.toList ((List.range 12).map fun i => (wdB (t.num i) (t.den i)).data.toList); rw [hsz] at j1 j2 j3; have c1 : (comB t.syn).size ≤ 11 := (by unfold comB; split <;> decide); have c2 := itB_len (z := t.wolf) (by omega) (by omega); omega
end Go.Proofs.YtgmpipimancnhaaGreatDoor
namespace Go.Proofs.YtgmpipimancnhaaGreatDoor
set_option linter.unusedSimpArgs false
open Go.RowKit
set_option linter.unusedVariables false
def IB (w : World) (g n : Nat) (f : Nat → Int) : Prop := ∃ (t : TypeId) (cs : Array Value), Blk w g t cs ∧ n ≤ cs.size ∧ ∀ j, j < n → cs[j]? = some (.int .i64 (f j))
theorem IB.lt {w : World} {g n : Nat} {f : Nat → Int} (h : IB w g n f) : g < w.heap.size := by
  obtain ⟨t, cs, hB, _⟩ := h; exact hB.lt
theorem IB.cell {w : World} {g n : Nat} {f : Nat → Int} (h : IB w g n f) {j : Nat} (hj : j < n) : w.cell? ⟨g, j, none⟩ = some (.int .i64 (f j)) := by
  obtain ⟨t, cs, hB, _, hc⟩ := h; rw [hB.cell, hc j hj]
theorem IB.mv {w w' : World} {b g n : Nat} {f : Nat → Int} (h : IB w b n f) (hm : Mv g w w') (hne : b ≠ g) : IB w' b n f := by
  obtain ⟨t, cs, hB, h1, h2⟩ := h; exact ⟨t, cs, hB.mv hm hne, h1, h2⟩
theorem IB.below {w w' : World} {B g n : Nat} {f : Nat → Int} (h : IB w g n f) (hb : Below B w w') (hg : g < B) : IB w' g n f := by
  obtain ⟨t, cs, hB, h1, h2⟩ := h; exact ⟨t, cs, hB.below hb hg, h1, h2⟩
theorem IB.congr {w : World} {g n : Nat} {f f' : Nat → Int} (h : IB w g n f) (e : ∀ j, j < n → f j = f' j) : IB w g n f' := by
  obtain ⟨t, cs, hB, h1, h2⟩ := h; exact ⟨t, cs, hB, h1, fun j hj => by rw [h2 j hj, e j hj]⟩
def upd (f : Nat → Int) (j : Nat) (x : Int) (i : Nat) : Int := if i = j then x else f i
theorem IB.setc {w : World} {g n : Nat} {f : Nat → Int} (h : IB w g n f) (o : Nat) (z : Int) : IB (w.setCell ⟨g, o, none⟩ (.int .i64 z)) g n (upd f o z) := by
  obtain ⟨t, cs, hB, h1, h2⟩ := h; refine ⟨t, _, hB.set_ o _, by simpa using h1, fun j hj => ?_⟩; unfold upd
  by_cases hjo : j = o
  · subst hjo; rw [if_pos rfl, Array.getElem?_setIfInBounds_self_of_lt (by omega)]
  · rw [if_neg hjo, Array.getElem?_setIfInBounds_ne (by omega)]; exact h2 j hj
theorem Mv.setc (w : World) (g o : Nat) (u : Value) : Mv g w (w.setCell ⟨g, o, none⟩ u) := Mv.setCells w g o [u]
theorem IB.frozen {w : World} {g n : Nat} {f : Nat → Int} (h : IB w g n f) (j : Nat) : w.frozen? ⟨g, j, none⟩ = false := by
  obtain ⟨t, cs, hB, _⟩ := h; exact hB.frozen j
theorem IB.drewN {w : World} {g n : Nat} {f : Nat → Int} (h : IB w g n f) (k : Nat) : IB (w.drewN k) g n f := h
theorem IB.of_own {w : World} {base n : Nat} {e : TypeId} {v : Value} {L : List Int} (h : w.ownsRow base e 1 v n (ints L)) (hn : 0 < n) :
    ∃ g cap, v = .slice (some ⟨g, 0, none⟩) n cap ∧ base ≤ g ∧ IB w g n (fun j => L[j]?.getD 0) := by
  obtain ⟨hl, h0 | ⟨g, cap, cur, rfl, hb, hh, hnc, _, hcs, htake⟩⟩ := h
  · omega
  · have hlen : L.length = n := (by unfold ints at hl; simpa using hl); refine ⟨g, cap, rfl, hb, e, cur, hh, by omega, fun j hj => ?_⟩; have e1 : (cur.toList.take (n * 1))[j]? = (ints L)[j]? := (by rw [htake]); rw [List.getElem?_take, if_pos (by omega), Array.getElem?_toList] at e1; rw [e1]; unfold ints; rw [List.getElem?_map, List.getElem?_eq_getElem (by omega)]; show some (Value.int .i64 L[j]) = some (Value.int .i64 (L[j]?.getD 0)); rw [List.getElem?_eq_getElem (by omega)]; rfl
end Go.Proofs.YtgmpipimancnhaaGreatDoor
