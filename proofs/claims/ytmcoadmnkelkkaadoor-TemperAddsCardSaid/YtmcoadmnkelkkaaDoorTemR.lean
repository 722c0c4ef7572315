/- Memory for walks over arrays and structs: whole values out of and into blocks; what moves. Package temper: whole, times, over, folded, cents: ratios in and out. (Printed by gentemo.py.) Package temper: folded and cents of ratios as exponents. Arrays of twelve ratios in memory. (Printed by gentemr.py.) -/
import Derived.Test.YtmcoadmnkelkkaaDoorTemI
import Derived.Test.YtmcoadmnkelkkaaDoorTemF
import Derived.Test.YtmcoadmnkelkkaaDoorOrdA
import Derived.Test.YtmcoadmnkelkkaaDoorMulE
import Derived.Deep.MidRow
import Derived.Deep.RegionHeld3
namespace Go.Proofs.YtmcoadmnkelkkaaDoor
set_option linter.unusedSimpArgs false
open Go.RowKit
set_option linter.unusedVariables false

/-- at most one block of those that were there has changed -/
structure Mv (g : Nat) (w w' : World) : Prop where
  os : w'.os = w.os
  tape : w'.tape = w.tape
  output : w'.output = w.output
  size : w.heap.size ≤ w'.heap.size
  block : ∀ k, k < w.heap.size → k ≠ g → w'.heap[k]? = w.heap[k]?
theorem Mv.of_below {w w' : World} (h : Below w.heap.size w w') : Mv w.heap.size w w' := ⟨h.os, h.tape, h.output, h.size, fun k hk _ => h.block k hk⟩
theorem Mv.refl (g : Nat) (w : World) : Mv g w w := ⟨rfl, rfl, rfl, Nat.le_refl _, fun _ _ _ => rfl⟩
theorem Mv.drewN {g : Nat} {w w' : World} (h : Mv g w w') (n : Nat) : Mv g w (w'.drewN n) := ⟨h.os, h.tape, h.output, h.size, h.block⟩
theorem Blk.mv {w w' : World} {b g : Nat} {t : TypeId} {cs : Array Value} (h : Blk w b t cs) (hm : Mv g w w') (hne : b ≠ g) : Blk w' b t cs := (hm.block b h.lt hne).trans h
theorem below_mv {B g : Nat} {w0 w w' : World} (h : Below B w0 w) (hm : Mv g w w') (hg : B ≤ g) (hB : B ≤ w.heap.size) : Below B w0 w' :=
  ⟨hm.os.trans h.os, hm.tape.trans h.tape, hm.output.trans h.output, Nat.le_trans h.size hm.size, fun k hk => (hm.block k (by omega) (by omega)).trans (h.block k hk)⟩
theorem setCells_os (g : Nat) : ∀ (vs : List Value) (o : Nat) (w : World), (w.setCells g o vs).os = w.os ∧ (w.setCells g o vs).tape = w.tape ∧ (w.setCells g o vs).output = w.output ∧ (w.setCells g o vs).heap.size = w.heap.size ∧ ∀ k, k ≠ g → (w.setCells g o vs).heap[k]? = w.heap[k]?
  | [], _, w => ⟨rfl, rfl, rfl, rfl, fun _ _ => rfl⟩
  | v :: r, o, w => by
    rw [World.setCells]
    obtain ⟨h1, h2, h3, h4, h5⟩ := setCells_os g r (o + 1) (w.setCell ⟨g, o, none⟩ v)
    refine ⟨h1.trans rfl, h2.trans rfl, h3.trans rfl, h4.trans (by simp [World.setCell]), fun k hk => (h5 k hk).trans ?_⟩
    exact Below.heap_setCell w ⟨g, o, none⟩ v k hk
theorem Mv.setCells (w : World) (g o : Nat) (vs : List Value) : Mv g w (w.setCells g o vs) := by
  obtain ⟨h1, h2, h3, h4, h5⟩ := setCells_os g vs o w
  exact ⟨h1, h2, h3, Nat.le_of_eq h4.symm, fun k _ hk => h5 k hk⟩
theorem setCells_size (w : World) (g o : Nat) (vs : List Value) : (w.setCells g o vs).heap.size = w.heap.size := (setCells_os g vs o w).2.2.2.1
/-- cells put into a row -/
def putA (cs : Array Value) : Nat → List Value → Array Value
  | _, [] => cs
  | o, v :: r => putA (cs.setIfInBounds o v) (o + 1) r
theorem Blk.setCells {w : World} {g : Nat} {t : TypeId} : ∀ (vs : List Value) (o : Nat) (w : World) (cs : Array Value), Blk w g t cs → Blk (w.setCells g o vs) g t (putA cs o vs)
  | [], _, _, _, h => h
  | v :: r, o, w, cs, h => by
    rw [World.setCells, putA]
    exact Blk.setCells (w := w) r (o + 1) _ _ (h.set_ o v)
theorem putA_size : ∀ (vs : List Value) (cs : Array Value) (o : Nat), (putA cs o vs).size = cs.size
  | [], _, _ => rfl
  | v :: r, cs, o => by rw [putA, putA_size r]; simp
theorem putA_get : ∀ (vs : List Value) (cs : Array Value) (o j : Nat), o + vs.length ≤ cs.size → (putA cs o vs)[j]? = if o ≤ j ∧ j < o + vs.length then vs[j - o]? else cs[j]?
  | [], cs, o, j, _ => by
    rw [putA, if_neg (by rw [List.length_nil]; omega)]
  | v :: r, cs, o, j, h => by
    rw [List.length_cons] at h
    rw [putA, putA_get r _ (o + 1) j (by simp; omega), List.length_cons]
    by_cases h1 : o + 1 ≤ j ∧ j < o + 1 + r.length
    · rw [if_pos h1, if_pos (by omega), show j - o = (j - (o + 1)) + 1 by omega, List.getElem?_cons_succ]
    · rw [if_neg h1]
      by_cases h2 : j = o
      · subst h2
        rw [if_pos (by omega), Nat.sub_self, List.getElem?_cons_zero, Array.getElem?_setIfInBounds_self_of_lt (by omega)]
      · rw [if_neg (by omega), Array.getElem?_setIfInBounds_ne (by omega)]
theorem putA_all (cs vs : Array Value) (h : vs.size = cs.size) : putA cs 0 vs.toList = vs := by
  have hl : vs.toList.length = vs.size := by simp
  apply Array.ext_getElem?
  intro j
  rw [putA_get _ _ _ _ (by omega)]
  by_cases hj : j < vs.size
  · rw [if_pos (by omega), Nat.sub_zero, Array.getElem?_toList]
  · rw [if_neg (by omega), Array.getElem?_eq_none (by omega), Array.getElem?_eq_none (by omega)]

section
variable {P : Program} {ops : Array Oper} {rest : List Oper} {op : Oper} {a : Act} {w : World} {Q : Exit → Act → World → Prop}
/-- a whole variable is read -/
theorem wpList_load_whole (hgd : op.guard = none) (ty : TypeId) (x : Operand) (ho : op.op = .load ty x)
    (g : Nat) (hx : a.eval x = .pointer (some ⟨g, 0, none⟩)) (t : TypeId) (cs : Array Value) (d : TypeDesc) (hB : Blk w g t cs)
    (hu : P.underlying ty = some d) (hd : d.isRow = true) (hi : (P.info? ty).map (·.size) = some cs.size)
    (h : wpList P ops Q rest (a.put op.dst (.agg cs)) w) : wpList P ops Q (op :: rest) a w := by
  have hr : w.rangeAt g 0 cs.toList := by
    have := World.rangeAt_of_block hB 0 cs.size
    rw [Nat.zero_add, Array.extract_size] at this
    exact this
  refine wpList_load_mid hgd ty x ho g 0 hx cs.toList d hr hu hd (by rw [hi]; simp) ?_
  rw [Array.toArray_toList]
  exact h
/-- a part of a variable is read -/
theorem wpList_load_part (hgd : op.guard = none) (ty : TypeId) (x : Operand) (ho : op.op = .load ty x)
    (g o : Nat) (hx : a.eval x = .pointer (some ⟨g, o, none⟩)) (t : TypeId) (cs vs : Array Value) (d : TypeDesc) (hB : Blk w g t cs) (hv : cs.extract o (o + vs.size) = vs)
    (hu : P.underlying ty = some d) (hd : d.isRow = true) (hi : (P.info? ty).map (·.size) = some vs.size)
    (h : wpList P ops Q rest (a.put op.dst (.agg vs)) w) : wpList P ops Q (op :: rest) a w := by
  have hr : w.rangeAt g o vs.toList := by
    have := World.rangeAt_of_block hB o vs.size
    rw [hv] at this
    exact this
  refine wpList_load_mid hgd ty x ho g o hx vs.toList d hr hu hd (by rw [hi]; simp) ?_
  rw [Array.toArray_toList]
  exact h
theorem Blk.there {g : Nat} {t : TypeId} {cs : Array Value} (h : Blk w g t cs) (o n : Nat) (hn : o + n ≤ cs.size) : w.there g o n := fun j hj => by
  refine ⟨?_, h.frozen _⟩
  rw [h.cell, Array.getElem?_eq_getElem (by omega)]
  rfl
/-- a whole value is stored -/
theorem wpList_store_part (hgd : op.guard = none) (ty : TypeId) (x y : Operand) (ho : op.op = .store ty x y)
    (g o : Nat) (cells : Array Value) (hx : a.eval x = .pointer (some ⟨g, o, none⟩)) (hy : a.eval y = .agg cells)
    (t : TypeId) (cs cs' : Array Value) (hB : Blk w g t cs) (hn : o + cells.size ≤ cs.size) (hp : putA cs o cells.toList = cs')
    (hi : (P.info? ty).map (·.size) = some cells.size) (h1 : cells.all (·.oneCell') = true)
    (h : ∀ w', Mv g w w' → w'.heap.size = w.heap.size → Blk w' g t cs' → wpList P ops Q rest (a.put op.dst undef) w') : wpList P ops Q (op :: rest) a w := by
  refine wpList_store_mid hgd ty x y ho g o cells hx hy (hB.there o _ hn) hi h1 (h _ (Mv.setCells _ _ _ _) (setCells_size _ _ _ _) ?_)
  rw [← hp]
  exact Blk.setCells (w := w) _ _ _ _ hB
/-- a variable is replaced whole -/
theorem wpList_store_whole (hgd : op.guard = none) (ty : TypeId) (x y : Operand) (ho : op.op = .store ty x y)
    (g : Nat) (cells : Array Value) (hx : a.eval x = .pointer (some ⟨g, 0, none⟩)) (hy : a.eval y = .agg cells)
    (t : TypeId) (cs : Array Value) (hB : Blk w g t cs) (hn : cells.size = cs.size)
    (hi : (P.info? ty).map (·.size) = some cells.size) (h1 : cells.all (·.oneCell') = true)
    (h : ∀ w', Mv g w w' → w'.heap.size = w.heap.size → Blk w' g t cells → wpList P ops Q rest (a.put op.dst undef) w') : wpList P ops Q (op :: rest) a w :=
  wpList_store_part hgd ty x y ho g 0 cells hx hy t cs cells hB (by omega) (putA_all cs cells hn) hi h1 h
/-- a variable is made -/
theorem wpList_alloc_new (k : Tmp) (hdst : op.dst = some k) (hgd : op.guard = none) (ty : TypeId) (ho : op.op = .alloc ty) (cells : Array Value)
    (hz : ∀ w, (Instr.alloc ty true (.tuple #[])).run P w = .ok (.pointer (some ⟨w.heap.size, 0, none⟩)) (w.alloc (.cells cells ty)))
    (h : ∀ w' g, g = w.heap.size → Mv w.heap.size w w' → w'.heap.size = g + 1 → Blk w' g ty cells → wpList P ops Q rest (a.put op.dst (.pointer (some ⟨g, 0, none⟩))) w') : wpList P ops Q (op :: rest) a w := by
  refine wpList_plain hgd fun K hK => ?_
  have hrun : (execOp a.eval op).run P w = .ok (.value (.pointer (some ⟨w.heap.size, 0, none⟩))) (w.alloc (.cells cells ty)) := by
    unfold execOp
    simp only [ho, Sem.run_bind, hz, Result.andThen_ok, Sem.run_pure]
  unfold Oper.wp
  rw [hrun, Oper.upon_value]
  exact hK _ _ (h _ _ rfl (Mv.of_below ((Below.refl _ _).alloc (Nat.le_refl _) _)) (by simp) (Blk.new w ty cells))
/-- a parameter is laid into memory -/
theorem wpList_box_new (k : Tmp) (hdst : op.dst = some k) (hgd : op.guard = none) (ty : TypeId) (x : Operand) (ho : op.op = .box ty x) (cells : Array Value) (hx : a.eval x = .agg cells)
    (hz : ∀ w, (Instr.box ty (.agg cells)).run P w = .ok (.pointer (some ⟨w.heap.size, 0, none⟩)) (w.alloc (.cells cells ty)))
    (h : ∀ w' g, g = w.heap.size → Mv w.heap.size w w' → w'.heap.size = g + 1 → Blk w' g ty cells → wpList P ops Q rest (a.put op.dst (.pointer (some ⟨g, 0, none⟩))) w') : wpList P ops Q (op :: rest) a w := by
  refine wpList_plain hgd fun K hK => ?_
  have hrun : (execOp a.eval op).run P w = .ok (.value (.pointer (some ⟨w.heap.size, 0, none⟩))) (w.alloc (.cells cells ty)) := by
    unfold execOp
    simp only [ho, hx, Sem.run_bind, hz, Result.andThen_ok, Sem.run_pure]
  unfold Oper.wp
  rw [hrun, Oper.upon_value]
  exact hK _ _ (h _ _ rfl (Mv.of_below ((Below.refl _ _).alloc (Nat.le_refl _) _)) (by simp) (Blk.new w ty cells))
end
theorem Mv.trans {g : Nat} {a b c : World} (h : Mv g a b) (k : Mv g b c) : Mv g a c :=
  ⟨k.os.trans h.os, k.tape.trans h.tape, k.output.trans h.output, Nat.le_trans h.size k.size, fun i hi hne => (k.block i (by have := h.size; omega) hne).trans (h.block i hi hne)⟩
theorem Mv.below {g : Nat} {a b : World} (h : Below a.heap.size a b) : Mv g a b := ⟨h.os, h.tape, h.output, h.size, fun k hk _ => h.block k hk⟩
theorem Mv.drew (g : Nat) (w : World) : Mv g w w.drew := ⟨rfl, rfl, rfl, Nat.le_refl _, fun _ _ _ => rfl⟩
section
variable {P : Program} {ops : Array Oper} {Q : Exit → Act → World → Prop} {md : Region.Mode} {S : World → Prop}
/-- the one operation that may come up next -/
theorem wpAnyH_one (i : Nat) {oi : Oper} {fuel : Nat} {listed : Array Bool} {a : Act} {w : World} (hi0 : ops.toList[i]? = some oi) (hr : Region.ready md ops listed = [i]) (hg : oi.guard = none)
    (h : ∀ K' : Act → World → Prop, Shut (∀ a w, S w → (S w → wpAnyH P md ops Q S fuel (listed.setIfInBounds i true) a w) → K' a w) → Oper.wp P oi a w K' Q) : wpAnyH P md ops Q S (fuel + 1) listed a w :=
  have hi : ops[i]? = some oi := by rw [← Array.getElem?_toList]; exact hi0
  wpAnyH_ready hr (by simp) (AllReadyH.cons hi (fun K' hK => by
    have hw : Region.wanted oi (yielded ops a.tmps) = true := by simp [Region.wanted, hg]
    rw [if_pos hw]
    exact h K' hK) AllReadyH.nil)
/-- the one operation that may come up next, a guarded one whose guard holds -/
theorem wpAnyH_onew (i : Nat) {oi : Oper} {fuel : Nat} {listed : Array Bool} {a : Act} {w : World} (hi0 : ops.toList[i]? = some oi) (hr : Region.ready md ops listed = [i]) (hw : Region.wanted oi (yielded ops a.tmps) = true)
    (h : ∀ K' : Act → World → Prop, Shut (∀ a w, S w → (S w → wpAnyH P md ops Q S fuel (listed.setIfInBounds i true) a w) → K' a w) → Oper.wp P oi a w K' Q) : wpAnyH P md ops Q S (fuel + 1) listed a w :=
  have hi : ops[i]? = some oi := by rw [← Array.getElem?_toList]; exact hi0
  wpAnyH_ready hr (by simp) (AllReadyH.cons hi (fun K' hK => by
    rw [if_pos hw]
    exact h K' hK) AllReadyH.nil)
/-- an operation that yields whatever the world is, taken first -/
theorem wpAnyH_pure (i : Nat) {oi : Oper} {v : Value} {fuel : Nat} {listed : Array Bool} {a : Act} {w : World} (hi0 : ops.toList[i]? = some oi)
    (hs : Region.noSelect ops = true) (hf : Region.free md ops listed i = true) (hr : (Region.ready md ops listed).contains i = true)
    (hQ : ∀ c a w, Q (.panic c) (a.put oi.dst v) w → Q (.panic c) a w) (hg : oi.guard = none) (hy : ∀ w, (execOp a.eval oi).run P w = .ok (.value v) w) (hS : S w)
    (h : wpAnyH P md ops Q S fuel (listed.setIfInBounds i true) (a.put oi.dst v) w) : wpAnyH P md ops Q S (fuel + 1) listed a w :=
  have hi : ops[i]? = some oi := by rw [← Array.getElem?_toList]; exact hi0
  wpAnyH_take hi hs hf hr hQ (.inl ⟨by simp [Region.wanted, hg], fun w _ => hy w⟩) hS h
/-- a load of what S keeps, taken first -/
theorem wpAnyH_load (i : Nat) {oi : Oper} {fuel : Nat} {listed : Array Bool} {a : Act} {w : World} (ty : TypeId) (x : Operand) (hi0 : ops.toList[i]? = some oi) (ho : oi.op = .load ty x) (hg : oi.guard = none)
    (g o : Nat) (hx : a.eval x = .pointer (some ⟨g, o, none⟩)) (vs : Array Value) (d : TypeDesc) (hR : ∀ w, S w → w.rangeAt g o vs.toList) (hu : P.underlying ty = some d) (hd : d.isRow = true) (hz : (P.info? ty).map (·.size) = some vs.size)
    (hs : Region.noSelect ops = true) (hf : Region.free md ops listed i = true) (hr : (Region.ready md ops listed).contains i = true)
    (hQ : ∀ c a w, Q (.panic c) (a.put oi.dst (.agg vs)) w → Q (.panic c) a w) (hS : S w)
    (h : wpAnyH P md ops Q S fuel (listed.setIfInBounds i true) (a.put oi.dst (.agg vs)) w) : wpAnyH P md ops Q S (fuel + 1) listed a w := by
  have hi : ops[i]? = some oi := by rw [← Array.getElem?_toList]; exact hi0
  have hy := yieldsIf_load_mid (P := P) (ops := ops) (S := S) (op := oi) (a := a) (by simp [Region.wanted, hg]) ty x ho g o hx vs.toList d hR hu hd (by rw [hz]; simp)
  rw [Array.toArray_toList] at hy
  exact wpAnyH_take hi hs hf hr hQ hy hS h
/-- a load of one cell that S keeps, taken first -/
theorem wpAnyH_cell (i : Nat) {oi : Oper} {fuel : Nat} {listed : Array Bool} {a : Act} {w : World} {v : Value} (hi0 : ops.toList[i]? = some oi) (hg : oi.guard = none)
    (hy : ∀ w, S w → (execOp a.eval oi).run P w = .ok (.value v) w)
    (hs : Region.noSelect ops = true) (hf : Region.free md ops listed i = true) (hr : (Region.ready md ops listed).contains i = true)
    (hQ : ∀ c a w, Q (.panic c) (a.put oi.dst v) w → Q (.panic c) a w) (hS : S w)
    (h : wpAnyH P md ops Q S fuel (listed.setIfInBounds i true) (a.put oi.dst v) w) : wpAnyH P md ops Q S (fuel + 1) listed a w :=
  have hi : ops[i]? = some oi := by rw [← Array.getElem?_toList]; exact hi0
  wpAnyH_take hi hs hf hr hQ (.inl ⟨by simp [Region.wanted, hg], hy⟩) hS h
end
section
variable {P : Program} {op : Oper} {a : Act} {w : World} {K : Act → World → Prop} {Q : Exit → Act → World → Prop}
theorem wp_store_part (ty : TypeId) (x y : Operand) (ho : op.op = .store ty x y)
    (g o : Nat) (cells : Array Value) (hx : a.eval x = .pointer (some ⟨g, o, none⟩)) (hy : a.eval y = .agg cells)
    (t : TypeId) (cs cs' : Array Value) (hB : Blk w g t cs) (hn : o + cells.size ≤ cs.size) (hp : putA cs o cells.toList = cs')
    (hi : (P.info? ty).map (·.size) = some cells.size) (h1 : cells.all (·.oneCell') = true)
    (h : ∀ w', Mv g w w' → w'.heap.size = w.heap.size → Blk w' g t cs' → K (a.put op.dst undef) w') : op.wp P a w K Q := by
  refine wp_store_mid ty x y ho g o cells hx hy (hB.there o _ hn) hi h1 (h _ (Mv.setCells _ _ _ _) (setCells_size _ _ _ _) ?_)
  rw [← hp]
  exact Blk.setCells (w := w) _ _ _ _ hB
theorem wp_load_all (ty : TypeId) (x : Operand) (ho : op.op = .load ty x) (g : Nat) (hx : a.eval x = .pointer (some ⟨g, 0, none⟩)) (t : TypeId) (cs : Array Value) (d : TypeDesc) (hB : Blk w g t cs)
    (hu : P.underlying ty = some d) (hd : d.isRow = true) (hi : (P.info? ty).map (·.size) = some cs.size) (h : K (a.put op.dst (.agg cs)) w) : op.wp P a w K Q := by
  have hr : w.rangeAt g 0 cs.toList := by
    have := World.rangeAt_of_block hB 0 cs.size
    rw [Nat.zero_add, Array.extract_size] at this
    exact this
  refine wp_load_mid ty x ho g 0 hx cs.toList d hr hu hd (by rw [hi]; simp) ?_
  rw [Array.toArray_toList]
  exact h
end
theorem wpList_store_int {P : Program} {ops : Array Oper} {rest : List Oper} {op : Oper} {a : Act} {w : World} {Q : Exit → Act → World → Prop} (hgd : op.guard = none) (ty : TypeId) (x y : Operand) (ho : op.op = .store ty x y)
    (g o : Nat) (k : IntKind) (z : Int) (hx : a.eval x = .pointer (some ⟨g, o, none⟩)) (hy : a.eval y = .int k z)
    (t : TypeId) (cs cs' : Array Value) (hB : Blk w g t cs) (hn : o < cs.size) (hp : cs.setIfInBounds o (.int k z) = cs')
    (hi : (P.info? ty).map (·.size) = some 1)
    (h : ∀ w', Mv g w w' → w'.heap.size = w.heap.size → Blk w' g t cs' → wpList P ops Q rest (a.put op.dst undef) w') : wpList P ops Q (op :: rest) a w := by
  have ht := hB.there o 1 (by omega)
  have hrun : (storeVar ty ⟨g, o, none⟩ (.int k z)).run P w = .ok () (w.setCells g o [.int k z]) := by
    have := run_storeCells_cells (P := P) g o [.int k z] 0 w (fun j hj => by simpa using (ht j (by simpa using hj)).1) (fun j hj => by simpa using (ht j (by simpa using hj)).2)
      (fun v hv => by simp at hv; subst hv; rfl)
    cases hq : P.info? ty with
    | none => simp [hq] at hi
    | some i =>
      have hs : i.size = 1 := by simpa [hq] using hi
      simp only [Nat.add_zero] at this
      simp [storeVar, sizeOf, typeInfo, hq, Value.cells, hs, this]
  refine wpList_plain hgd fun _ hK => ?_
  unfold Oper.wp execOp
  simp only [ho, hx, hy, Instr.storeAt, Instr.sureAddr, Sem.run_bind, Sem.run_pure, Result.andThen_ok, hrun]
  refine hK _ _ (h _ (Mv.setCells _ _ _ _) (setCells_size _ _ _ _) ?_)
  rw [← hp]
  exact Blk.setCells (w := w) [.int k z] o _ _ hB
theorem own_mv {w w' : World} {g base size n : Nat} {e : TypeId} {v : Value} {xs : List Value} (h : w.ownsRow base e size v n xs) (hm : Mv g w w') (hne : ∀ k, v.ownBlock = some k → k ≠ g) : w'.ownsRow base e size v n xs := by
  refine ⟨h.1, ?_⟩
  rcases h.2 with h0 | ⟨b, cap, cur, e1, hb, hh, h1⟩
  · exact .inl h0
  · subst e1
    exact .inr ⟨b, cap, cur, rfl, hb, (hm.block b (Blk.lt (t := e) (cs := cur) hh) (hne b rfl)).trans hh, h1⟩
theorem alloc_ratio (w : World) : (Instr.alloc 34 true (.tuple #[])).run Tryd.prog w = .ok (.pointer (some ⟨w.heap.size, 0, none⟩)) (w.alloc (.cells RVzero.cells 34)) := by kernel_rfl
theorem size_ratio : (Tryd.prog.info? 34).map (·.size) = some 7 := by kernel_rfl
theorem RV.cells_size (r : RV) : r.cells.size = 7 := rfl
theorem RV.cells_one (r : RV) : r.cells.all (·.oneCell') = true := by unfold RV.cells; simp [Value.oneCell']
end Go.Proofs.YtmcoadmnkelkkaaDoor
namespace Go.Proofs.YtmcoadmnkelkkaaDoor
set_option linter.unusedSimpArgs false
open Go.RowKit
set_option linter.unusedVariables false

attribute [-simp] Tryd.isAgg34
theorem box_ratio (r : RV) (w : World) : (Instr.box 34 (.agg r.cells)).run Tryd.prog w = .ok (.pointer (some ⟨w.heap.size, 0, none⟩)) (w.alloc (.cells r.cells 34)) := by kernel_rfl
set_option maxHeartbeats 1600000 in
set_option maxRecDepth 100000 in
theorem whole_any (a b : Int) (r : RV) (w : World) (hT : PrT w) (hr : ofS a b = (r, 0)) : Calls Tryd.prog 38 #[.int .i64 a, .int .i64 b] w fun e w' => e = .returned (.agg r.cells) ∧ Below w.heap.size w w' := by
  have HB : Sl (Below w.heap.size w w) := ⟨Below.refl _ _⟩
  have H : Sl (∀ W : World, PrT W → Calls Tryd.prog 49 #[.int .i64 a, .int .i64 b] W fun e w' => e = .returned (.tuple #[.agg r.cells, .int .i64 0]) ∧ Below W.heap.size W w') := ⟨fun W h => by
    have := ROf_any a b W h
    rw [hr] at this
    exact this⟩
  have HT : Sl _ := ⟨hT⟩
  clear hr hT
  go_enter Tryd.func38, Tryd.ntmps38
  go_wp2_with ((with_reducible show wpList _ _ _ _ _ _); first
    | (refine wpList_alloc_new 4 rfl rfl 34 rfl RVzero.cells alloc_ratio ?_; rintro w1 gA zg zm zs zb; have ORD : Sl (w.heap.size ≤ gA) := ⟨by have := HB.out.size; omega⟩; replace HB : Sl (Below w.heap.size w w1) := ⟨below_mv HB.out zm (by have := HB.out.size; have := ORD.out; omega) HB.out.size⟩; have XA : Sl (Blk w1 gA 34 RVzero.cells) := ⟨zb⟩; clear zg zm zs zb))
  refine (H.out _ (HT.out.below HB.out)).mono ?_; rintro e w2 ⟨rfl, hb⟩
  replace HB : Sl (Below w.heap.size w w2) := ⟨HB.out.trans (hb.mono HB.out.size)⟩
  replace XA : Sl (Blk w2 gA 34 RVzero.cells) := ⟨XA.out.below hb XA.out.lt⟩
  clear hb
  go_wp2_with ((with_reducible show wpList _ _ _ _ _ _); first
    | (refine wpList_alloc_new 5 rfl rfl 34 rfl RVzero.cells alloc_ratio ?_; rintro w3 gB zg zm zs zb; replace ORD : Sl (w.heap.size ≤ gA ∧ gA < gB) := ⟨by have := HB.out.size; have := ORD.out; have := XA.out.lt; omega⟩; replace HB : Sl (Below w.heap.size w w3) := ⟨below_mv HB.out zm (by have := HB.out.size; have := ORD.out; omega) HB.out.size⟩; replace XA : Sl (Blk w3 gA 34 RVzero.cells) := ⟨XA.out.mv zm (by have := XA.out.lt; have := ORD.out; omega)⟩; have XB : Sl (Blk w3 gB 34 RVzero.cells) := ⟨zb⟩; clear zg zm zs zb)
    | (refine wpList_store_whole rfl 34 (.tmp 5) (.tmp 11) rfl gB r.cells rfl rfl 34 RVzero.cells XB.out rfl size_ratio (RV.cells_one _) ?_; rintro w4 zm zs zb; replace HB : Sl (Below w.heap.size w w4) := ⟨below_mv HB.out zm (by have := HB.out.size; have := ORD.out; omega) HB.out.size⟩; replace XA : Sl (Blk w4 gA 34 RVzero.cells) := ⟨XA.out.mv zm (by have := XA.out.lt; have := ORD.out; omega)⟩; replace XB : Sl (Blk w4 gB 34 r.cells) := ⟨zb⟩; clear zm zs zb)
    | (refine wpList_load_whole rfl 34 (.tmp 5) rfl gB rfl 34 r.cells _ XB.out Tryd.underlying34 rfl size_ratio ?_)
    | (refine wpList_store_whole rfl 34 (.tmp 4) (.tmp 13) rfl gA r.cells rfl rfl 34 RVzero.cells XA.out rfl size_ratio (RV.cells_one _) ?_; rintro w5 zm zs zb; replace HB : Sl (Below w.heap.size w w5) := ⟨below_mv HB.out zm (by have := HB.out.size; have := ORD.out; omega) HB.out.size⟩; replace XB : Sl (Blk w5 gB 34 r.cells) := ⟨XB.out.mv zm (by have := XB.out.lt; have := ORD.out; omega)⟩; replace XA : Sl (Blk w5 gA 34 r.cells) := ⟨zb⟩; clear zm zs zb))
  refine bodyPost_ret (results_cell_row rfl _ _ gA _ _ _ _ rfl XA.out Tryd.underlying34 rfl size_ratio) rfl ?_
  exact ⟨rfl, HB.out⟩
set_option maxHeartbeats 1600000 in
set_option maxRecDepth 100000 in
theorem ttimes_any (a b r : RV) (w : World) (hr : joinS a b (1) = (r, 0)) : Calls Tryd.prog 41 #[.agg a.cells, .agg b.cells] w fun e w' => e = .returned (.agg r.cells) ∧ Below w.heap.size w w' := by
  have HB : Sl (Below w.heap.size w w) := ⟨Below.refl _ _⟩
  have H : Sl (∀ W : World, Calls Tryd.prog 52 #[.agg a.cells, .agg b.cells] W fun e w' => e = .returned (.tuple #[.agg r.cells, .int .i64 0]) ∧ Below W.heap.size W w') := ⟨fun W => by
    have := vMul_any a b W
    rw [hr] at this
    exact this⟩
  clear hr
  go_enter Tryd.func41, Tryd.ntmps41
  go_wp2_with ((with_reducible show wpList _ _ _ _ _ _); first
    | (refine wpList_box_new 2 rfl rfl 34 (.tmp 0) rfl a.cells rfl (box_ratio a) ?_; rintro w1 gP zg zm zs zb; have ORD : Sl (w.heap.size ≤ gP) := ⟨by have := HB.out.size; omega⟩; replace HB : Sl (Below w.heap.size w w1) := ⟨below_mv HB.out zm (by have := HB.out.size; have := ORD.out; omega) HB.out.size⟩; have XP : Sl (Blk w1 gP 34 a.cells) := ⟨zb⟩; clear zg zm zs zb)
    | (refine wpList_box_new 3 rfl rfl 34 (.tmp 1) rfl b.cells rfl (box_ratio b) ?_; rintro w2 gQ zg zm zs zb; replace ORD : Sl (w.heap.size ≤ gP ∧ gP < gQ) := ⟨by have := HB.out.size; have := ORD.out; have := XP.out.lt; omega⟩; replace HB : Sl (Below w.heap.size w w2) := ⟨below_mv HB.out zm (by have := HB.out.size; have := ORD.out; omega) HB.out.size⟩; replace XP : Sl (Blk w2 gP 34 a.cells) := ⟨XP.out.mv zm (by have := XP.out.lt; have := ORD.out; omega)⟩; have XQ : Sl (Blk w2 gQ 34 b.cells) := ⟨zb⟩; clear zg zm zs zb)
    | (refine wpList_alloc_new 4 rfl rfl 34 rfl RVzero.cells alloc_ratio ?_; rintro w3 gA zg zm zs zb; replace ORD : Sl (w.heap.size ≤ gP ∧ gP < gQ ∧ gQ < gA) := ⟨by have := HB.out.size; have := ORD.out; have := XP.out.lt; have := XQ.out.lt; omega⟩; replace HB : Sl (Below w.heap.size w w3) := ⟨below_mv HB.out zm (by have := HB.out.size; have := ORD.out; omega) HB.out.size⟩; replace XP : Sl (Blk w3 gP 34 a.cells) := ⟨XP.out.mv zm (by have := XP.out.lt; have := ORD.out; omega)⟩; replace XQ : Sl (Blk w3 gQ 34 b.cells) := ⟨XQ.out.mv zm (by have := XQ.out.lt; have := ORD.out; omega)⟩; have XA : Sl (Blk w3 gA 34 RVzero.cells) := ⟨zb⟩; clear zg zm zs zb)
    | (refine wpList_load_whole rfl 34 (.tmp 2) rfl gP rfl 34 a.cells _ XP.out Tryd.underlying34 rfl size_ratio ?_)
    | (refine wpList_load_whole rfl 34 (.tmp 3) rfl gQ rfl 34 b.cells _ XQ.out Tryd.underlying34 rfl size_ratio ?_))
  refine (H.out _).mono ?_; rintro e w4 ⟨rfl, hb⟩
  replace HB : Sl (Below w.heap.size w w4) := ⟨HB.out.trans (hb.mono HB.out.size)⟩
  replace XP : Sl (Blk w4 gP 34 a.cells) := ⟨XP.out.below hb XP.out.lt⟩
  replace XQ : Sl (Blk w4 gQ 34 b.cells) := ⟨XQ.out.below hb XQ.out.lt⟩
  replace XA : Sl (Blk w4 gA 34 RVzero.cells) := ⟨XA.out.below hb XA.out.lt⟩
  clear hb
  go_wp2_with ((with_reducible show wpList _ _ _ _ _ _); first
    | (refine wpList_alloc_new 5 rfl rfl 34 rfl RVzero.cells alloc_ratio ?_; rintro w5 gB zg zm zs zb; replace ORD : Sl (w.heap.size ≤ gP ∧ gP < gQ ∧ gQ < gA ∧ gA < gB) := ⟨by have := HB.out.size; have := ORD.out; have := XP.out.lt; have := XQ.out.lt; have := XA.out.lt; omega⟩; replace HB : Sl (Below w.heap.size w w5) := ⟨below_mv HB.out zm (by have := HB.out.size; have := ORD.out; omega) HB.out.size⟩; replace XP : Sl (Blk w5 gP 34 a.cells) := ⟨XP.out.mv zm (by have := XP.out.lt; have := ORD.out; omega)⟩; replace XQ : Sl (Blk w5 gQ 34 b.cells) := ⟨XQ.out.mv zm (by have := XQ.out.lt; have := ORD.out; omega)⟩; replace XA : Sl (Blk w5 gA 34 RVzero.cells) := ⟨XA.out.mv zm (by have := XA.out.lt; have := ORD.out; omega)⟩; have XB : Sl (Blk w5 gB 34 RVzero.cells) := ⟨zb⟩; clear zg zm zs zb)
    | (refine wpList_store_whole rfl 34 (.tmp 5) (.tmp 11) rfl gB r.cells rfl rfl 34 RVzero.cells XB.out rfl size_ratio (RV.cells_one _) ?_; rintro w6 zm zs zb; replace HB : Sl (Below w.heap.size w w6) := ⟨below_mv HB.out zm (by have := HB.out.size; have := ORD.out; omega) HB.out.size⟩; replace XP : Sl (Blk w6 gP 34 a.cells) := ⟨XP.out.mv zm (by have := XP.out.lt; have := ORD.out; omega)⟩; replace XQ : Sl (Blk w6 gQ 34 b.cells) := ⟨XQ.out.mv zm (by have := XQ.out.lt; have := ORD.out; omega)⟩; replace XA : Sl (Blk w6 gA 34 RVzero.cells) := ⟨XA.out.mv zm (by have := XA.out.lt; have := ORD.out; omega)⟩; replace XB : Sl (Blk w6 gB 34 r.cells) := ⟨zb⟩; clear zm zs zb)
    | (refine wpList_load_whole rfl 34 (.tmp 5) rfl gB rfl 34 r.cells _ XB.out Tryd.underlying34 rfl size_ratio ?_)
    | (refine wpList_store_whole rfl 34 (.tmp 4) (.tmp 13) rfl gA r.cells rfl rfl 34 RVzero.cells XA.out rfl size_ratio (RV.cells_one _) ?_; rintro w7 zm zs zb; replace HB : Sl (Below w.heap.size w w7) := ⟨below_mv HB.out zm (by have := HB.out.size; have := ORD.out; omega) HB.out.size⟩; replace XP : Sl (Blk w7 gP 34 a.cells) := ⟨XP.out.mv zm (by have := XP.out.lt; have := ORD.out; omega)⟩; replace XQ : Sl (Blk w7 gQ 34 b.cells) := ⟨XQ.out.mv zm (by have := XQ.out.lt; have := ORD.out; omega)⟩; replace XB : Sl (Blk w7 gB 34 r.cells) := ⟨XB.out.mv zm (by have := XB.out.lt; have := ORD.out; omega)⟩; replace XA : Sl (Blk w7 gA 34 r.cells) := ⟨zb⟩; clear zm zs zb))
  refine bodyPost_ret (results_cell_row rfl _ _ gA _ _ _ _ rfl XA.out Tryd.underlying34 rfl size_ratio) rfl ?_
  exact ⟨rfl, HB.out⟩
set_option maxHeartbeats 1600000 in
set_option maxRecDepth 100000 in
theorem tover_any (a b r : RV) (w : World) (hr : joinS a b (-1) = (r, 0)) : Calls Tryd.prog 42 #[.agg a.cells, .agg b.cells] w fun e w' => e = .returned (.agg r.cells) ∧ Below w.heap.size w w' := by
  have HB : Sl (Below w.heap.size w w) := ⟨Below.refl _ _⟩
  have H : Sl (∀ W : World, Calls Tryd.prog 53 #[.agg a.cells, .agg b.cells] W fun e w' => e = .returned (.tuple #[.agg r.cells, .int .i64 0]) ∧ Below W.heap.size W w') := ⟨fun W => by
    have := vDiv_any a b W
    rw [hr] at this
    exact this⟩
  clear hr
  go_enter Tryd.func42, Tryd.ntmps42
  go_wp2_with ((with_reducible show wpList _ _ _ _ _ _); first
    | (refine wpList_box_new 2 rfl rfl 34 (.tmp 0) rfl a.cells rfl (box_ratio a) ?_; rintro w1 gP zg zm zs zb; have ORD : Sl (w.heap.size ≤ gP) := ⟨by have := HB.out.size; omega⟩; replace HB : Sl (Below w.heap.size w w1) := ⟨below_mv HB.out zm (by have := HB.out.size; have := ORD.out; omega) HB.out.size⟩; have XP : Sl (Blk w1 gP 34 a.cells) := ⟨zb⟩; clear zg zm zs zb)
    | (refine wpList_box_new 3 rfl rfl 34 (.tmp 1) rfl b.cells rfl (box_ratio b) ?_; rintro w2 gQ zg zm zs zb; replace ORD : Sl (w.heap.size ≤ gP ∧ gP < gQ) := ⟨by have := HB.out.size; have := ORD.out; have := XP.out.lt; omega⟩; replace HB : Sl (Below w.heap.size w w2) := ⟨below_mv HB.out zm (by have := HB.out.size; have := ORD.out; omega) HB.out.size⟩; replace XP : Sl (Blk w2 gP 34 a.cells) := ⟨XP.out.mv zm (by have := XP.out.lt; have := ORD.out; omega)⟩; have XQ : Sl (Blk w2 gQ 34 b.cells) := ⟨zb⟩; clear zg zm zs zb)
    | (refine wpList_alloc_new 4 rfl rfl 34 rfl RVzero.cells alloc_ratio ?_; rintro w3 gA zg zm zs zb; replace ORD : Sl (w.heap.size ≤ gP ∧ gP < gQ ∧ gQ < gA) := ⟨by have := HB.out.size; have := ORD.out; have := XP.out.lt; have := XQ.out.lt; omega⟩; replace HB : Sl (Below w.heap.size w w3) := ⟨below_mv HB.out zm (by have := HB.out.size; have := ORD.out; omega) HB.out.size⟩; replace XP : Sl (Blk w3 gP 34 a.cells) := ⟨XP.out.mv zm (by have := XP.out.lt; have := ORD.out; omega)⟩; replace XQ : Sl (Blk w3 gQ 34 b.cells) := ⟨XQ.out.mv zm (by have := XQ.out.lt; have := ORD.out; omega)⟩; have XA : Sl (Blk w3 gA 34 RVzero.cells) := ⟨zb⟩; clear zg zm zs zb)
    | (refine wpList_load_whole rfl 34 (.tmp 2) rfl gP rfl 34 a.cells _ XP.out Tryd.underlying34 rfl size_ratio ?_)
    | (refine wpList_load_whole rfl 34 (.tmp 3) rfl gQ rfl 34 b.cells _ XQ.out Tryd.underlying34 rfl size_ratio ?_))
  refine (H.out _).mono ?_; rintro e w4 ⟨rfl, hb⟩
  replace HB : Sl (Below w.heap.size w w4) := ⟨HB.out.trans (hb.mono HB.out.size)⟩
  replace XP : Sl (Blk w4 gP 34 a.cells) := ⟨XP.out.below hb XP.out.lt⟩
  replace XQ : Sl (Blk w4 gQ 34 b.cells) := ⟨XQ.out.below hb XQ.out.lt⟩
  replace XA : Sl (Blk w4 gA 34 RVzero.cells) := ⟨XA.out.below hb XA.out.lt⟩
  clear hb
  go_wp2_with ((with_reducible show wpList _ _ _ _ _ _); first
    | (refine wpList_alloc_new 5 rfl rfl 34 rfl RVzero.cells alloc_ratio ?_; rintro w5 gB zg zm zs zb; replace ORD : Sl (w.heap.size ≤ gP ∧ gP < gQ ∧ gQ < gA ∧ gA < gB) := ⟨by have := HB.out.size; have := ORD.out; have := XP.out.lt; have := XQ.out.lt; have := XA.out.lt; omega⟩; replace HB : Sl (Below w.heap.size w w5) := ⟨below_mv HB.out zm (by have := HB.out.size; have := ORD.out; omega) HB.out.size⟩; replace XP : Sl (Blk w5 gP 34 a.cells) := ⟨XP.out.mv zm (by have := XP.out.lt; have := ORD.out; omega)⟩; replace XQ : Sl (Blk w5 gQ 34 b.cells) := ⟨XQ.out.mv zm (by have := XQ.out.lt; have := ORD.out; omega)⟩; replace XA : Sl (Blk w5 gA 34 RVzero.cells) := ⟨XA.out.mv zm (by have := XA.out.lt; have := ORD.out; omega)⟩; have XB : Sl (Blk w5 gB 34 RVzero.cells) := ⟨zb⟩; clear zg zm zs zb)
    | (refine wpList_store_whole rfl 34 (.tmp 5) (.tmp 11) rfl gB r.cells rfl rfl 34 RVzero.cells XB.out rfl size_ratio (RV.cells_one _) ?_; rintro w6 zm zs zb; replace HB : Sl (Below w.heap.size w w6) := ⟨below_mv HB.out zm (by have := HB.out.size; have := ORD.out; omega) HB.out.size⟩; replace XP : Sl (Blk w6 gP 34 a.cells) := ⟨XP.out.mv zm (by have := XP.out.lt; have := ORD.out; omega)⟩; replace XQ : Sl (Blk w6 gQ 34 b.cells) := ⟨XQ.out.mv zm (by have := XQ.out.lt; have := ORD.out; omega)⟩; replace XA : Sl (Blk w6 gA 34 RVzero.cells) := ⟨XA.out.mv zm (by have := XA.out.lt; have := ORD.out; omega)⟩; replace XB : Sl (Blk w6 gB 34 r.cells) := ⟨zb⟩; clear zm zs zb)
    | (refine wpList_load_whole rfl 34 (.tmp 5) rfl gB rfl 34 r.cells _ XB.out Tryd.underlying34 rfl size_ratio ?_)
    | (refine wpList_store_whole rfl 34 (.tmp 4) (.tmp 13) rfl gA r.cells rfl rfl 34 RVzero.cells XA.out rfl size_ratio (RV.cells_one _) ?_; rintro w7 zm zs zb; replace HB : Sl (Below w.heap.size w w7) := ⟨below_mv HB.out zm (by have := HB.out.size; have := ORD.out; omega) HB.out.size⟩; replace XP : Sl (Blk w7 gP 34 a.cells) := ⟨XP.out.mv zm (by have := XP.out.lt; have := ORD.out; omega)⟩; replace XQ : Sl (Blk w7 gQ 34 b.cells) := ⟨XQ.out.mv zm (by have := XQ.out.lt; have := ORD.out; omega)⟩; replace XB : Sl (Blk w7 gB 34 r.cells) := ⟨XB.out.mv zm (by have := XB.out.lt; have := ORD.out; omega)⟩; replace XA : Sl (Blk w7 gA 34 r.cells) := ⟨zb⟩; clear zm zs zb))
  refine bodyPost_ret (results_cell_row rfl _ _ gA _ _ _ _ rfl XA.out Tryd.underlying34 rfl size_ratio) rfl ?_
  exact ⟨rfl, HB.out⟩
set_option maxHeartbeats 1600000 in
set_option maxRecDepth 100000 in
theorem tfolded_any (a r : RV) (k : Int) (w : World) (H : Sl (∀ W : World, PrT W → Calls Tryd.prog 51 #[.agg a.cells] W fun e w' => e = .returned (.tuple #[.agg r.cells, .int .i64 k, .int .i64 0]) ∧ Below W.heap.size W w')) (hT : PrT w) : Calls Tryd.prog 40 #[.agg a.cells] w fun e w' => e = .returned (.agg r.cells) ∧ Below w.heap.size w w' := by
  have HB : Sl (Below w.heap.size w w) := ⟨Below.refl _ _⟩
  have HT : Sl _ := ⟨hT⟩
  clear hT
  go_enter Tryd.func40, Tryd.ntmps40
  go_wp2_with ((with_reducible show wpList _ _ _ _ _ _); first
    | (refine wpList_box_new 1 rfl rfl 34 (.tmp 0) rfl a.cells rfl (box_ratio a) ?_; rintro w1 gP zg zm zs zb; have ORD : Sl (w.heap.size ≤ gP) := ⟨by have := HB.out.size; omega⟩; replace HB : Sl (Below w.heap.size w w1) := ⟨below_mv HB.out zm (by have := HB.out.size; have := ORD.out; omega) HB.out.size⟩; have XP : Sl (Blk w1 gP 34 a.cells) := ⟨zb⟩; clear zg zm zs zb)
    | (refine wpList_alloc_new 2 rfl rfl 34 rfl RVzero.cells alloc_ratio ?_; rintro w2 gA zg zm zs zb; replace ORD : Sl (w.heap.size ≤ gP ∧ gP < gA) := ⟨by have := HB.out.size; have := ORD.out; have := XP.out.lt; omega⟩; replace HB : Sl (Below w.heap.size w w2) := ⟨below_mv HB.out zm (by have := HB.out.size; have := ORD.out; omega) HB.out.size⟩; replace XP : Sl (Blk w2 gP 34 a.cells) := ⟨XP.out.mv zm (by have := XP.out.lt; have := ORD.out; omega)⟩; have XA : Sl (Blk w2 gA 34 RVzero.cells) := ⟨zb⟩; clear zg zm zs zb)
    | (refine wpList_load_whole rfl 34 (.tmp 1) rfl gP rfl 34 a.cells _ XP.out Tryd.underlying34 rfl size_ratio ?_))
  refine (H.out _ (HT.out.below HB.out)).mono ?_; rintro e w3 ⟨rfl, hb⟩
  replace HB : Sl (Below w.heap.size w w3) := ⟨HB.out.trans (hb.mono HB.out.size)⟩
  replace XP : Sl (Blk w3 gP 34 a.cells) := ⟨XP.out.below hb XP.out.lt⟩
  replace XA : Sl (Blk w3 gA 34 RVzero.cells) := ⟨XA.out.below hb XA.out.lt⟩
  clear hb
  go_wp2_with ((with_reducible show wpList _ _ _ _ _ _); first
    | (refine wpList_alloc_new 3 rfl rfl 34 rfl RVzero.cells alloc_ratio ?_; rintro w4 gB zg zm zs zb; replace ORD : Sl (w.heap.size ≤ gP ∧ gP < gA ∧ gA < gB) := ⟨by have := HB.out.size; have := ORD.out; have := XP.out.lt; have := XA.out.lt; omega⟩; replace HB : Sl (Below w.heap.size w w4) := ⟨below_mv HB.out zm (by have := HB.out.size; have := ORD.out; omega) HB.out.size⟩; replace XP : Sl (Blk w4 gP 34 a.cells) := ⟨XP.out.mv zm (by have := XP.out.lt; have := ORD.out; omega)⟩; replace XA : Sl (Blk w4 gA 34 RVzero.cells) := ⟨XA.out.mv zm (by have := XA.out.lt; have := ORD.out; omega)⟩; have XB : Sl (Blk w4 gB 34 RVzero.cells) := ⟨zb⟩; clear zg zm zs zb)
    | (refine wpList_store_whole rfl 34 (.tmp 3) (.tmp 9) rfl gB r.cells rfl rfl 34 RVzero.cells XB.out rfl size_ratio (RV.cells_one _) ?_; rintro w5 zm zs zb; replace HB : Sl (Below w.heap.size w w5) := ⟨below_mv HB.out zm (by have := HB.out.size; have := ORD.out; omega) HB.out.size⟩; replace XP : Sl (Blk w5 gP 34 a.cells) := ⟨XP.out.mv zm (by have := XP.out.lt; have := ORD.out; omega)⟩; replace XA : Sl (Blk w5 gA 34 RVzero.cells) := ⟨XA.out.mv zm (by have := XA.out.lt; have := ORD.out; omega)⟩; replace XB : Sl (Blk w5 gB 34 r.cells) := ⟨zb⟩; clear zm zs zb)
    | (refine wpList_load_whole rfl 34 (.tmp 3) rfl gB rfl 34 r.cells _ XB.out Tryd.underlying34 rfl size_ratio ?_)
    | (refine wpList_store_whole rfl 34 (.tmp 2) (.tmp 12) rfl gA r.cells rfl rfl 34 RVzero.cells XA.out rfl size_ratio (RV.cells_one _) ?_; rintro w6 zm zs zb; replace HB : Sl (Below w.heap.size w w6) := ⟨below_mv HB.out zm (by have := HB.out.size; have := ORD.out; omega) HB.out.size⟩; replace XP : Sl (Blk w6 gP 34 a.cells) := ⟨XP.out.mv zm (by have := XP.out.lt; have := ORD.out; omega)⟩; replace XB : Sl (Blk w6 gB 34 r.cells) := ⟨XB.out.mv zm (by have := XB.out.lt; have := ORD.out; omega)⟩; replace XA : Sl (Blk w6 gA 34 r.cells) := ⟨zb⟩; clear zm zs zb))
  refine bodyPost_ret (results_cell_row rfl _ _ gA _ _ _ _ rfl XA.out Tryd.underlying34 rfl size_ratio) rfl ?_
  exact ⟨rfl, HB.out⟩
set_option maxHeartbeats 1600000 in
set_option maxRecDepth 100000 in
theorem tcents_any (a : RV) (m : Int) (w : World) (H : Sl (∀ W : World, PrT W → Calls Tryd.prog 48 #[.agg a.cells] W fun e w' => (∃ b, e = .returned (.tuple #[.int .i64 m, .bool b, .int .i64 0])) ∧ Below W.heap.size W w')) (hT : PrT w) : Calls Tryd.prog 35 #[.agg a.cells] w fun e w' => e = .returned (.int .i64 m) ∧ Below w.heap.size w w' := by
  have HB : Sl (Below w.heap.size w w) := ⟨Below.refl _ _⟩
  have HT : Sl _ := ⟨hT⟩
  clear hT
  go_enter Tryd.func35, Tryd.ntmps35
  go_wp2_with ((with_reducible show wpList _ _ _ _ _ _); first
    | (refine wpList_box_new 1 rfl rfl 34 (.tmp 0) rfl a.cells rfl (box_ratio a) ?_; rintro w1 gP zg zm zs zb; have ORD : Sl (w.heap.size ≤ gP) := ⟨by have := HB.out.size; omega⟩; replace HB : Sl (Below w.heap.size w w1) := ⟨below_mv HB.out zm (by have := HB.out.size; have := ORD.out; omega) HB.out.size⟩; have XP : Sl (Blk w1 gP 34 a.cells) := ⟨zb⟩; clear zg zm zs zb)
    | (refine wpList_load_whole rfl 34 (.tmp 1) rfl gP rfl 34 a.cells _ XP.out Tryd.underlying34 rfl size_ratio ?_))
  refine (H.out _ (HT.out.below HB.out)).mono ?_; rintro e w2 ⟨⟨bx, rfl⟩, hb⟩
  replace HB : Sl (Below w.heap.size w w2) := ⟨HB.out.trans (hb.mono HB.out.size)⟩
  replace XP : Sl (Blk w2 gP 34 a.cells) := ⟨XP.out.below hb XP.out.lt⟩
  clear hb
  go_wp2_with fail
  go_ret
  exact ⟨rfl, HB.out⟩
end Go.Proofs.YtmcoadmnkelkkaaDoor
namespace Go.Proofs.YtmcoadmnkelkkaaDoor
set_option linter.unusedSimpArgs false
open Go.RowKit
set_option linter.unusedVariables false

/-- the octaves that Fold takes off -/
theorem fold_flo {u : Nat → Int} {D : Int} (hu : fitsV u D) (hz : fitsV (fol u D) D) {w : World} (hT : PrT w) :
    -1000000000000 ≤ flo u D ∧ flo u D ≤ 1000000000000 ∧ (checkS (nr u D) = 0 → ∀ e, FloorRes (termsN (nr u D) 6) 1 (nr u D).d (sgR (nr u D) 1) e → ∃ b er, e = .returned (.tuple #[.int .i64 (flo u D), .bool b, .int .i64 er])) ∧ foldS (nr u D) (flo u D) = (nr (fol u D) D, flo u D, 0) := by
  obtain ⟨k, h1, h2, h3, h4⟩ := fold_kk (nr u D) w hT
  obtain ⟨g1, g2⟩ := h4 (nr_ok hu)
  have e1 : TT (k * D) u := ((TT_nr 1 hu.1.1).1 g1).congr fun j _ => Int.mul_one _
  have e2 : SS ((k + 1) * D) u := ((SS_nr 1 hu.1.1).1 g2).congr fun j _ => Int.mul_one _
  have ek : flo u D = k := flo_eq hu.1.1 e1 e2
  rw [ek]
  refine ⟨h1, h2, h3, fold_nr hu hz fun j _ => ?_⟩
  unfold fol oct
  rw [ek]
  split
  · rfl
  · omega
theorem folded_nr {u : Nat → Int} {D : Int} (hu : fitsV u D) (hz : fitsV (fol u D) D) (w : World) (hT : PrT w) :
    Calls Tryd.prog 40 #[.agg (nr u D).cells] w fun e w' => e = .returned (.agg (nr (fol u D) D).cells) ∧ Below w.heap.size w w' := by
  refine tfolded_any _ _ (flo u D) w ⟨fun W h => ?_⟩ hT
  obtain ⟨h1, h2, h3, h4⟩ := fold_flo hu hz h
  have := vFold_any (nr u D) (flo u D) W h h3 h1 h2
  rw [h4] at this
  exact this
/-- the millicents of a ratio as exponents -/
noncomputable def cmN (u : Nat → Int) (D : Int) : Int := Classical.epsilon fun m => ∃ b, Ce (nr u D) m b
theorem Ce.same {r : RV} {m m' : Int} {b b' : Bool} (h : Ce r m b) (h' : Ce r m' b') : m = m' := by
  have hd := (checkS_ok h.ok).1.1
  have l1 := lt_of_mul_lt hd (h.lo.lt h'.hi)
  have l2 := lt_of_mul_lt hd (h'.lo.lt h.hi)
  omega
theorem Ce.cm {u : Nat → Int} {D m : Int} {b : Bool} (h : Ce (nr u D) m b) : cmN u D = m := by
  obtain ⟨b', h'⟩ := Classical.epsilon_spec (p := fun m => ∃ b, Ce (nr u D) m b) ⟨m, b, h⟩
  exact h'.same h
theorem cents_tame {u : Nat → Int} {D : Int} (hu : fitsV u D) (h1 : TT (-D) u) (h2 : SS D u) {e : Ending} (h : CentsRes e (nr u D)) :
    (∃ b, e = .returned (.tuple #[.int .i64 (cmN u D), .bool b, .int .i64 0]) ∧ Ce (nr u D) (cmN u D) b) ∧ -1200000 ≤ cmN u D ∧ cmN u D < 1200000 := by
  have h0 := nr_ok hu
  obtain ⟨m, b, er, rfl, _, _⟩ := CentsRes_bd h
  have hD := hu.1.1
  have t1 : TT (-1200000 * D) (fun j => u j * 1200000) := (h1.scale 1200000).cast (by show -D * 1200000 = _; omega) fun j _ => rfl
  have t2 : SS (1200000 * D) (fun j => u j * 1200000) := (h2.scale' (n := 1200000) (by decide)).cast (by show D * 1200000 = _; omega) fun j _ => rfl
  have her : er = 0 := by
    have r1 := (checkS_ok h0).1.1
    have g1 := (TT_nr (D := D) (u := u) (x := -1200000) 1200000 hD).2 t1
    have g2 := (SS_nr (D := D) (u := u) (x := 1200000) 1200000 hD).2 t2
    have h1 := h.2 h0
    unfold FloorRes at h1
    split at h1
    · rename_i hc
      exfalso
      rcases hc with hc | hc
      · have := lt_of_mul_lt r1 (((sgM_TT _ 1200000 _ 1000000000001).1 hc).lt g2)
        omega
      · have := lt_of_mul_lt r1 (g1.lt ((sgM_SS _ 1200000 _ (-1000000000000)).1 hc))
        omega
    · obtain ⟨m', _, _, _, _, h1⟩ := h1
      injection h1 with h1
      injection h1 with h1
      simp at h1
      exact h1.2.2
  subst her
  have hc := Ce.of h rfl
  have hm := hc.cm
  rw [hm]
  have l1 := lt_of_mul_lt hD (((TT_nr 1200000 hD).1 hc.lo).lt t2)
  have l2 := lt_of_mul_lt hD (t1.lt ((SS_nr 1200000 hD).1 hc.hi))
  exact ⟨⟨b, rfl, hc⟩, by omega, by omega⟩
theorem tcents_nr {u : Nat → Int} {D : Int} (hu : fitsV u D) (h1 : TT (-D) u) (h2 : SS D u) (w : World) (hT : PrT w) :
    Calls Tryd.prog 35 #[.agg (nr u D).cells] w fun e w' => e = .returned (.int .i64 (cmN u D)) ∧ Below w.heap.size w w' := by
  refine tcents_any _ _ w ⟨fun W h => ?_⟩ hT
  refine (Cents_any (nr u D) W h).mono fun e w' ⟨hc, hb⟩ => ?_
  obtain ⟨⟨b, h3, _⟩, _⟩ := cents_tame hu h1 h2 hc
  exact ⟨⟨b, h3⟩, hb⟩
end Go.Proofs.YtmcoadmnkelkkaaDoor
namespace Go.Proofs.YtmcoadmnkelkkaaDoor
set_option linter.unusedSimpArgs false
open Go.RowKit
set_option linter.unusedVariables false

def flatR (f : Nat → RV) : Array Value := #[.int .i64 (f 0).n0, .int .i64 (f 0).n1, .int .i64 (f 0).n2, .int .i64 (f 0).n3, .int .i64 (f 0).n4, .int .i64 (f 0).n5, .int .i64 (f 0).d, .int .i64 (f 1).n0, .int .i64 (f 1).n1, .int .i64 (f 1).n2, .int .i64 (f 1).n3, .int .i64 (f 1).n4, .int .i64 (f 1).n5, .int .i64 (f 1).d, .int .i64 (f 2).n0, .int .i64 (f 2).n1, .int .i64 (f 2).n2, .int .i64 (f 2).n3, .int .i64 (f 2).n4, .int .i64 (f 2).n5, .int .i64 (f 2).d, .int .i64 (f 3).n0, .int .i64 (f 3).n1, .int .i64 (f 3).n2, .int .i64 (f 3).n3, .int .i64 (f 3).n4, .int .i64 (f 3).n5, .int .i64 (f 3).d, .int .i64 (f 4).n0, .int .i64 (f 4).n1, .int .i64 (f 4).n2, .int .i64 (f 4).n3, .int .i64 (f 4).n4, .int .i64 (f 4).n5, .int .i64 (f 4).d, .int .i64 (f 5).n0, .int .i64 (f 5).n1, .int .i64 (f 5).n2, .int .i64 (f 5).n3, .int .i64 (f 5).n4, .int .i64 (f 5).n5, .int .i64 (f 5).d, .int .i64 (f 6).n0, .int .i64 (f 6).n1, .int .i64 (f 6).n2, .int .i64 (f 6).n3, .int .i64 (f 6).n4, .int .i64 (f 6).n5, .int .i64 (f 6).d, .int .i64 (f 7).n0, .int .i64 (f 7).n1, .int .i64 (f 7).n2, .int .i64 (f 7).n3, .int .i64 (f 7).n4, .int .i64 (f 7).n5, .int .i64 (f 7).d, .int .i64 (f 8).n0, .int .i64 (f 8).n1, .int .i64 (f 8).n2, .int .i64 (f 8).n3, .int .i64 (f 8).n4, .int .i64 (f 8).n5, .int .i64 (f 8).d, .int .i64 (f 9).n0, .int .i64 (f 9).n1, .int .i64 (f 9).n2, .int .i64 (f 9).n3, .int .i64 (f 9).n4, .int .i64 (f 9).n5, .int .i64 (f 9).d, .int .i64 (f 10).n0, .int .i64 (f 10).n1, .int .i64 (f 10).n2, .int .i64 (f 10).n3, .int .i64 (f 10).n4, .int .i64 (f 10).n5, .int .i64 (f 10).d, .int .i64 (f 11).n0, .int .i64 (f 11).n1, .int .i64 (f 11).n2, .int .i64 (f 11).n3, .int .i64 (f 11).n4, .int .i64 (f 11).n5, .int .i64 (f 11).d]
theorem flatR_size (f : Nat → RV) : (flatR f).size = 84 := by kernel_rfl
theorem flatR_one (f : Nat → RV) : (flatR f).all (·.oneCell') = true := by kernel_rfl
theorem flatR_ext {f g : Nat → RV} (h : ∀ k, k < 12 → f k = g k) : flatR f = flatR g := by
  have h0 := h 0 (by decide)
  have h1 := h 1 (by decide)
  have h2 := h 2 (by decide)
  have h3 := h 3 (by decide)
  have h4 := h 4 (by decide)
  have h5 := h 5 (by decide)
  have h6 := h 6 (by decide)
  have h7 := h 7 (by decide)
  have h8 := h 8 (by decide)
  have h9 := h 9 (by decide)
  have h10 := h 10 (by decide)
  have h11 := h 11 (by decide)
  unfold flatR
  rw [h0, h1, h2, h3, h4, h5, h6, h7, h8, h9, h10, h11]
theorem idxR_0 (f : Nat → RV) (W : World) : (Instr.index 53 (.agg (flatR f)) (.int .i64 0)).run Tryd.prog W = .ok (.agg (f 0).cells) W := by kernel_rfl
theorem putR_0 (f : Nat → RV) (r : RV) : putA (flatR f) (0 * 7) r.cells.toList = flatR (fun j => if j = 0 then r else f j) := by kernel_rfl
theorem extR_0 (f : Nat → RV) : (flatR f).extract (0 * 7) (0 * 7 + (f 0).cells.size) = (f 0).cells := by kernel_rfl
theorem idxR_1 (f : Nat → RV) (W : World) : (Instr.index 53 (.agg (flatR f)) (.int .i64 1)).run Tryd.prog W = .ok (.agg (f 1).cells) W := by kernel_rfl
theorem putR_1 (f : Nat → RV) (r : RV) : putA (flatR f) (1 * 7) r.cells.toList = flatR (fun j => if j = 1 then r else f j) := by kernel_rfl
theorem extR_1 (f : Nat → RV) : (flatR f).extract (1 * 7) (1 * 7 + (f 1).cells.size) = (f 1).cells := by kernel_rfl
theorem idxR_2 (f : Nat → RV) (W : World) : (Instr.index 53 (.agg (flatR f)) (.int .i64 2)).run Tryd.prog W = .ok (.agg (f 2).cells) W := by kernel_rfl
theorem putR_2 (f : Nat → RV) (r : RV) : putA (flatR f) (2 * 7) r.cells.toList = flatR (fun j => if j = 2 then r else f j) := by kernel_rfl
theorem extR_2 (f : Nat → RV) : (flatR f).extract (2 * 7) (2 * 7 + (f 2).cells.size) = (f 2).cells := by kernel_rfl
theorem idxR_3 (f : Nat → RV) (W : World) : (Instr.index 53 (.agg (flatR f)) (.int .i64 3)).run Tryd.prog W = .ok (.agg (f 3).cells) W := by kernel_rfl
theorem putR_3 (f : Nat → RV) (r : RV) : putA (flatR f) (3 * 7) r.cells.toList = flatR (fun j => if j = 3 then r else f j) := by kernel_rfl
theorem extR_3 (f : Nat → RV) : (flatR f).extract (3 * 7) (3 * 7 + (f 3).cells.size) = (f 3).cells := by kernel_rfl
theorem idxR_4 (f : Nat → RV) (W : World) : (Instr.index 53 (.agg (flatR f)) (.int .i64 4)).run Tryd.prog W = .ok (.agg (f 4).cells) W := by kernel_rfl
theorem putR_4 (f : Nat → RV) (r : RV) : putA (flatR f) (4 * 7) r.cells.toList = flatR (fun j => if j = 4 then r else f j) := by kernel_rfl
theorem extR_4 (f : Nat → RV) : (flatR f).extract (4 * 7) (4 * 7 + (f 4).cells.size) = (f 4).cells := by kernel_rfl
theorem idxR_5 (f : Nat → RV) (W : World) : (Instr.index 53 (.agg (flatR f)) (.int .i64 5)).run Tryd.prog W = .ok (.agg (f 5).cells) W := by kernel_rfl
theorem putR_5 (f : Nat → RV) (r : RV) : putA (flatR f) (5 * 7) r.cells.toList = flatR (fun j => if j = 5 then r else f j) := by kernel_rfl
theorem extR_5 (f : Nat → RV) : (flatR f).extract (5 * 7) (5 * 7 + (f 5).cells.size) = (f 5).cells := by kernel_rfl
theorem idxR_6 (f : Nat → RV) (W : World) : (Instr.index 53 (.agg (flatR f)) (.int .i64 6)).run Tryd.prog W = .ok (.agg (f 6).cells) W := by kernel_rfl
theorem putR_6 (f : Nat → RV) (r : RV) : putA (flatR f) (6 * 7) r.cells.toList = flatR (fun j => if j = 6 then r else f j) := by kernel_rfl
theorem extR_6 (f : Nat → RV) : (flatR f).extract (6 * 7) (6 * 7 + (f 6).cells.size) = (f 6).cells := by kernel_rfl
theorem idxR_7 (f : Nat → RV) (W : World) : (Instr.index 53 (.agg (flatR f)) (.int .i64 7)).run Tryd.prog W = .ok (.agg (f 7).cells) W := by kernel_rfl
theorem putR_7 (f : Nat → RV) (r : RV) : putA (flatR f) (7 * 7) r.cells.toList = flatR (fun j => if j = 7 then r else f j) := by kernel_rfl
theorem extR_7 (f : Nat → RV) : (flatR f).extract (7 * 7) (7 * 7 + (f 7).cells.size) = (f 7).cells := by kernel_rfl
theorem idxR_8 (f : Nat → RV) (W : World) : (Instr.index 53 (.agg (flatR f)) (.int .i64 8)).run Tryd.prog W = .ok (.agg (f 8).cells) W := by kernel_rfl
theorem putR_8 (f : Nat → RV) (r : RV) : putA (flatR f) (8 * 7) r.cells.toList = flatR (fun j => if j = 8 then r else f j) := by kernel_rfl
theorem extR_8 (f : Nat → RV) : (flatR f).extract (8 * 7) (8 * 7 + (f 8).cells.size) = (f 8).cells := by kernel_rfl
theorem idxR_9 (f : Nat → RV) (W : World) : (Instr.index 53 (.agg (flatR f)) (.int .i64 9)).run Tryd.prog W = .ok (.agg (f 9).cells) W := by kernel_rfl
theorem putR_9 (f : Nat → RV) (r : RV) : putA (flatR f) (9 * 7) r.cells.toList = flatR (fun j => if j = 9 then r else f j) := by kernel_rfl
theorem extR_9 (f : Nat → RV) : (flatR f).extract (9 * 7) (9 * 7 + (f 9).cells.size) = (f 9).cells := by kernel_rfl
theorem idxR_10 (f : Nat → RV) (W : World) : (Instr.index 53 (.agg (flatR f)) (.int .i64 10)).run Tryd.prog W = .ok (.agg (f 10).cells) W := by kernel_rfl
theorem putR_10 (f : Nat → RV) (r : RV) : putA (flatR f) (10 * 7) r.cells.toList = flatR (fun j => if j = 10 then r else f j) := by kernel_rfl
theorem extR_10 (f : Nat → RV) : (flatR f).extract (10 * 7) (10 * 7 + (f 10).cells.size) = (f 10).cells := by kernel_rfl
theorem idxR_11 (f : Nat → RV) (W : World) : (Instr.index 53 (.agg (flatR f)) (.int .i64 11)).run Tryd.prog W = .ok (.agg (f 11).cells) W := by kernel_rfl
theorem putR_11 (f : Nat → RV) (r : RV) : putA (flatR f) (11 * 7) r.cells.toList = flatR (fun j => if j = 11 then r else f j) := by kernel_rfl
theorem extR_11 (f : Nat → RV) : (flatR f).extract (11 * 7) (11 * 7 + (f 11).cells.size) = (f 11).cells := by kernel_rfl
theorem idxR (f : Nat → RV) (W : World) {k : Nat} (hk : k < 12) : (Instr.index 53 (.agg (flatR f)) (.int .i64 (k : Int))).run Tryd.prog W = .ok (.agg (f k).cells) W := by
  have h : k = 0 ∨ k = 1 ∨ k = 2 ∨ k = 3 ∨ k = 4 ∨ k = 5 ∨ k = 6 ∨ k = 7 ∨ k = 8 ∨ k = 9 ∨ k = 10 ∨ k = 11 := by omega
  rcases h with rfl | rfl | rfl | rfl | rfl | rfl | rfl | rfl | rfl | rfl | rfl | rfl
  · exact idxR_0 f W
  · exact idxR_1 f W
  · exact idxR_2 f W
  · exact idxR_3 f W
  · exact idxR_4 f W
  · exact idxR_5 f W
  · exact idxR_6 f W
  · exact idxR_7 f W
  · exact idxR_8 f W
  · exact idxR_9 f W
  · exact idxR_10 f W
  · exact idxR_11 f W
theorem putR (f : Nat → RV) (r : RV) {k : Nat} (hk : k < 12) : putA (flatR f) (k * 7) r.cells.toList = flatR (fun j => if j = k then r else f j) := by
  have h : k = 0 ∨ k = 1 ∨ k = 2 ∨ k = 3 ∨ k = 4 ∨ k = 5 ∨ k = 6 ∨ k = 7 ∨ k = 8 ∨ k = 9 ∨ k = 10 ∨ k = 11 := by omega
  rcases h with rfl | rfl | rfl | rfl | rfl | rfl | rfl | rfl | rfl | rfl | rfl | rfl
  · exact putR_0 f r
  · exact putR_1 f r
  · exact putR_2 f r
  · exact putR_3 f r
  · exact putR_4 f r
  · exact putR_5 f r
  · exact putR_6 f r
  · exact putR_7 f r
  · exact putR_8 f r
  · exact putR_9 f r
  · exact putR_10 f r
  · exact putR_11 f r
theorem extR (f : Nat → RV) {k : Nat} (hk : k < 12) : (flatR f).extract (k * 7) (k * 7 + (f k).cells.size) = (f k).cells := by
  have h : k = 0 ∨ k = 1 ∨ k = 2 ∨ k = 3 ∨ k = 4 ∨ k = 5 ∨ k = 6 ∨ k = 7 ∨ k = 8 ∨ k = 9 ∨ k = 10 ∨ k = 11 := by omega
  rcases h with rfl | rfl | rfl | rfl | rfl | rfl | rfl | rfl | rfl | rfl | rfl | rfl
  · exact extR_0 f
  · exact extR_1 f
  · exact extR_2 f
  · exact extR_3 f
  · exact extR_4 f
  · exact extR_5 f
  · exact extR_6 f
  · exact extR_7 f
  · exact extR_8 f
  · exact extR_9 f
  · exact extR_10 f
  · exact extR_11 f
theorem alloc_twelve (w : World) : (Instr.alloc 53 true (.tuple #[])).run Tryd.prog w = .ok (.pointer (some ⟨w.heap.size, 0, none⟩)) (w.alloc (.cells (flatR fun _ => RVzero) 53)) := by kernel_rfl
theorem size_twelve (f : Nat → RV) : (Tryd.prog.info? 53).map (·.size) = some (flatR f).size := by kernel_rfl
theorem alloc_part (w : World) : (Instr.alloc 23 true (.tuple #[])).run Tryd.prog w = .ok (.pointer (some ⟨w.heap.size, 0, none⟩)) (w.alloc (.cells #[.int .i64 0, .int .i64 0] 23)) := by kernel_rfl
theorem size_part (x y : Int) : (Tryd.prog.info? 23).map (·.size) = some (#[Value.int .i64 x, Value.int .i64 y]).size := by kernel_rfl
theorem part_one (x y : Int) : (#[Value.int .i64 x, Value.int .i64 y]).all (·.oneCell') = true := by kernel_rfl
theorem size_parts2 (t : TV) : (Tryd.prog.info? 24).map (·.size) = some t.parts.size := by kernel_rfl
theorem parts_ext (t : TV) : t.cells.extract 3 (3 + t.parts.size) = t.parts := by kernel_rfl
/-- the ratio at a place of an array -/
theorem Blk.atR {w : World} {g : Nat} {t : TypeId} {f : Nat → RV} (h : Blk w g t (flatR f)) {k : Nat} (hk : k < 12) : w.rangeAt g (k * 7) (f k).cells.toList := by
  have := World.rangeAt_of_block h (k * 7) (f k).cells.size
  rw [extR f hk] at this
  exact this
theorem Blk.all {w : World} {g : Nat} {t : TypeId} {cs : Array Value} (h : Blk w g t cs) : w.rangeAt g 0 cs.toList := by
  have := World.rangeAt_of_block h 0 cs.size
  rw [Nat.zero_add, Array.extract_size] at this
  exact this
theorem Blk.setR {w : World} {g : Nat} {t : TypeId} {f : Nat → RV} (h : Blk w g t (flatR f)) {k : Nat} (hk : k < 12) (r : RV) : Blk (w.setCells g (k * 7) r.cells.toList) g t (flatR (fun j => if j = k then r else f j)) := by
  rw [← putR f r hk]
  exact Blk.setCells (w := w) _ _ _ _ h
theorem Blk.put1 {w : World} {g : Nat} {t : TypeId} {cs : Array Value} (h : Blk w g t cs) (vs : Array Value) (hs : vs.size = cs.size) : Blk (w.setCells g 0 vs.toList) g t vs := by
  have := Blk.setCells (w := w) vs.toList 0 w cs h
  rwa [putA_all cs vs hs] at this
theorem Blk.at7 {w : World} {g : Nat} {t : TypeId} {f : Nat → RV} (h : Blk w g t (flatR f)) {k : Nat} (hk : k < 12) : w.cell? ⟨g, k * 7, none⟩ = some (.int .i64 (f k).n0) ∧ w.cell? ⟨g, k * 7 + 1, none⟩ = some (.int .i64 (f k).n1) ∧ w.cell? ⟨g, k * 7 + 2, none⟩ = some (.int .i64 (f k).n2) ∧ w.cell? ⟨g, k * 7 + 3, none⟩ = some (.int .i64 (f k).n3) ∧ w.cell? ⟨g, k * 7 + 4, none⟩ = some (.int .i64 (f k).n4) ∧ w.cell? ⟨g, k * 7 + 5, none⟩ = some (.int .i64 (f k).n5) ∧ w.cell? ⟨g, k * 7 + 6, none⟩ = some (.int .i64 (f k).d) := by
  have := h.atR hk
  exact ⟨this 0 _ rfl, this 1 _ rfl, this 2 _ rfl, this 3 _ rfl, this 4 _ rfl, this 5 _ rfl, this 6 _ rfl⟩
theorem RV.cells_len (r : RV) : r.cells.toList.length = 7 := rfl
theorem RV.cells_one_l (r : RV) : ∀ v ∈ r.cells.toList, v.oneCell' = true := by
  intro v hv
  unfold RV.cells at hv
  simp at hv
  rcases hv with rfl | rfl | rfl | rfl | rfl | rfl | rfl <;> rfl
end Go.Proofs.YtmcoadmnkelkkaaDoor
