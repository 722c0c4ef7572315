/- Memory for walks over arrays and structs: whole values out of and into blocks; what moves; regions that draw, operation by operation. (The laws of TemR and TrO that speak of no package.) -/
import Derived.Test.YtbaojmfkjpnfhaaGreatDoorBase
import Derived.Deep.MidRow
import Derived.Deep.RegionHeld3
namespace Go.Proofs.YtbaojmfkjpnfhaaGreatDoor
set_option linter.unusedSimpArgs false
open Go.RowKit
set_option linter.unusedVariables false

structure Mv (g : Nat) (w w' : World) : Prop where
  os : w'.os = w.os
  tape : w'.tape = w.tape
  output : w'.output = w.output
  size : w.heap.size ≤ w'.heap.size
  block : ∀ k, k < w.heap.size → k ≠ g → w'.heap[k]? = w.heap[k]?
theorem Mv.of_below {w w' : World} (h : Below w.heap.size w w') : Mv w.heap.size w w' := ⟨h.os, h.tape, h.output, h.size, fun k hk _ => h.block k hk⟩
theorem Mv.refl (g : Nat) (w : World) : Mv g w w := ⟨rfl, rfl, rfl, Nat.le_refl _, fun _ _ _ => rfl⟩
theorem Mv.drewN {g : Nat} {w w' : World} (h : Mv g w w') (n : Nat) : Mv g w (w'.drewN n) := ⟨h.os, h.tape, h.output, h.size, h.block⟩
theorem Blk.mv {w w' : World} {b g : Nat} {t : TypeId} {cs : Array Value} (h : Blk w b t cs) (hm : Mv g w w') (hne : b ≠ g) : Blk w' b t cs := (hm.block b h.lt hne).trans h
theorem below_mv {B g : Nat} {w0 w w' : World} (h : Below B w0 w) (hm : Mv g w w') (hg : B ≤ g) (hB : B ≤ w.heap.size) : Below B w0 w' :=
  ⟨hm.os.trans h.os, hm.tape.trans h.tape, hm.output.trans h.output, Nat.le_trans h.size hm.size, fun k hk => (hm.block k (by omega) (by omega)).trans (h.block k hk)⟩
theorem setCells_os (g : Nat) : ∀ (vs : List Value) (o : Nat) (w : World), (w.setCells g o vs).os = w.os ∧ (w.setCells g o vs).tape = w.tape ∧ (w.setCells g o vs).output = w.output ∧ (w.setCells g o vs).heap.size = w.heap.size ∧ ∀ k, k ≠ g → (w.setCells g o vs).heap[k]? = w.heap[k]?
  | [], _, w => ⟨rfl, rfl, rfl, rfl, fun _ _ => rfl⟩
  | v :: r, o, w => by
    rw [World.setCells]; obtain ⟨h1, h2, h3, h4, h5⟩ := setCells_os g r (o + 1) (w.setCell ⟨g, o, none⟩ v); refine ⟨h1.trans rfl, h2.trans rfl, h3.trans rfl, h4.trans (by simp [World.setCell]), fun k hk => (h5 k hk).trans ?_⟩; exact Below.heap_setCell w ⟨g, o, none⟩ v k hk
theorem Mv.setCells (w : World) (g o : Nat) (vs : List Value) : Mv g w (w.setCells g o vs) := by
  obtain ⟨h1, h2, h3, h4, h5⟩ := setCells_os g vs o w; exact ⟨h1, h2, h3, Nat.le_of_eq h4.symm, fun k _ hk => h5 k hk⟩
theorem setCells_size (w : World) (g o : Nat) (vs : List Value) : (w.setCells g o vs).heap.size = w.heap.size := (setCells_os g vs o w).2.2.2.1
/-- cells put into a row -/
def putA (cs : Array Value) : Nat → List Value → Array Value
  | _, [] => cs
  | o, v :: r => putA (cs.setIfInBounds o v) (o + 1) r
theorem Blk.setCells {w : World} {g : Nat} {t : TypeId} : ∀ (vs : List Value) (o : Nat) (w : World) (cs : Array Value), Blk w g t cs → Blk (w.setCells g o vs) g t (putA cs o vs)
  | [], _, _, _, h => h
  | v :: r, o, w, cs, h => by
    rw [World.setCells, putA]; exact Blk.setCells (w := w) r (o + 1) _ _ (h.set_ o v)
theorem putA_size : ∀ (vs : List Value) (cs : Array Value) (o : Nat), (putA cs o vs).size = cs.size
  | [], _, _ => rfl
  | v :: r, cs, o => by rw [putA, putA_size r]; simp
theorem putA_get : ∀ (vs : List Value) (cs : Array Value) (o j : Nat), o + vs.length ≤ cs.size → (putA cs o vs)[j]? = if o ≤ j ∧ j < o + vs.length then vs[j - o]? else cs[j]?
  | [], cs, o, j, _ => by
    rw [putA, if_neg (by rw [List.length_nil]; omega)]
  | v :: r, cs, o, j, h => by
    rw [List.length_cons] at h; rw [putA, putA_get r _ (o + 1) j (by simp; omega), List.length_cons]
    by_cases h1 : o + 1 ≤ j ∧ j < o + 1 + r.length
    · rw [if_pos h1, if_pos (by omega), show j - o = (j - (o + 1)) + 1 by omega, List.getElem?_cons_succ]
    · rw [if_neg h1]
      by_cases h2 : j = o
      · subst h2; rw [if_pos (by omega), Nat.sub_self, List.getElem?_cons_zero, Array.getElem?_setIfInBounds_self_of_lt (by omega)]
      · rw [if_neg (by omega), Array.getElem?_setIfInBounds_ne (by omega)]
theorem putA_all (cs vs : Array Value) (h : vs.size = cs.size) : putA cs 0 vs.toList = vs := by
  have hl : vs.toList.length = vs.size := (by simp); apply Array.ext_getElem?; intro j; rw [putA_get _ _ _ _ (by omega)]
  by_cases hj : j < vs.size
  · rw [if_pos (by omega), Nat.sub_zero, Array.getElem?_toList]
  · rw [if_neg (by omega), Array.getElem?_eq_none (by omega), Array.getElem?_eq_none (by omega)]

section
variable {P : Program} {ops : Array Oper} {rest : List Oper} {op : Oper} {a : Act} {w : World} {Q : Exit → Act → World → Prop}
/-- a whole variable is read -/
theorem wpList_load_whole (hgd : op.guard = none) (ty : TypeId) (x : Operand) (ho : op.op = .load ty x)
    (g : Nat) (hx : a.eval x = .pointer (some ⟨g, 0, none⟩)) (t : TypeId) (cs : Array Value) (d : TypeDesc) (hB : Blk w g t cs)
    (hu : P.underlying ty = some d) (hd : d.isRow = true) (hi : (P.info? ty).map (·.size) = some cs.size)
    (h : wpList P ops Q rest (a.put op.dst (.agg cs)) w) : wpList P ops Q (op :: rest) a w := by
  have hr : w.rangeAt g 0 cs.toList := by
    have := World.rangeAt_of_block hB 0 cs.size; rw [Nat.zero_add, Array.extract_size] at this; exact this
  refine wpList_load_mid hgd ty x ho g 0 hx cs.toList d hr hu hd (by rw [hi]; simp) ?_; rw [Array.toArray_toList]; exact h
/-- a part of a variable is read -/
theorem wpList_load_part (hgd : op.guard = none) (ty : TypeId) (x : Operand) (ho : op.op = .load ty x)
    (g o : Nat) (hx : a.eval x = .pointer (some ⟨g, o, none⟩)) (t : TypeId) (cs vs : Array Value) (d : TypeDesc) (hB : Blk w g t cs) (hv : cs.extract o (o + vs.size) = vs)
    (hu : P.underlying ty = some d) (hd : d.isRow = true) (hi : (P.info? ty).map (·.size) = some vs.size)
    (h : wpList P ops Q rest (a.put op.dst (.agg vs)) w) : wpList P ops Q (op :: rest) a w := by
  have hr : w.rangeAt g o vs.toList := by
    have := World.rangeAt_of_block hB o vs.size; rw [hv] at this; exact this
  refine wpList_load_mid hgd ty x ho g o hx vs.toList d hr hu hd (by rw [hi]; simp) ?_; rw [Array.toArray_toList]; exact h
theorem Blk.there {g : Nat} {t : TypeId} {cs : Array Value} (h : Blk w g t cs) (o n : Nat) (hn : o + n ≤ cs.size) : w.there g o n := fun j hj => by
  refine ⟨?_, h.frozen _⟩; rw [h.cell, Array.getElem?_eq_getElem (by omega)]; rfl
/-- a whole value is stored -/
theorem wpList_store_part (hgd : op.guard = none) (ty : TypeId) (x y : Operand) (ho : op.op = .store ty x y)
    (g o : Nat) (cells : Array Value) (hx : a.eval x = .pointer (some ⟨g, o, none⟩)) (hy : a.eval y = .agg cells)
    (t : TypeId) (cs cs' : Array Value) (hB : Blk w g t cs) (hn : o + cells.size ≤ cs.size) (hp : putA cs o cells.toList = cs')
    (hi : (P.info? ty).map (·.size) = some cells.size) (h1 : cells.all (·.oneCell') = true)
    (h : ∀ w', Mv g w w' → w'.heap.size = w.heap.size → Blk w' g t cs' → wpList P ops Q rest (a.put op.dst undef) w') : wpList P ops Q (op :: rest) a w := by
  refine wpList_store_mid hgd ty x y ho g o cells hx hy (hB.there o _ hn) hi h1 (h _ (Mv.setCells _ _ _ _) (setCells_size _ _ _ _) ?_); rw [← hp]; exact Blk.setCells (w := w) _ _ _ _ hB
/-- a variable is replaced whole -/
theorem wpList_store_whole (hgd : op.guard = none) (ty : TypeId) (x y : Operand) (ho : op.op = .store ty x y)
    (g : Nat) (cells : Array Value) (hx : a.eval x = .pointer (some ⟨g, 0, none⟩)) (hy : a.eval y = .agg cells)
    (t : TypeId) (cs : Array Value) (hB : Blk w g t cs) (hn : cells.size = cs.size)
    (hi : (P.info? ty).map (·.size) = some cells.size) (h1 : cells.all (·.oneCell') = true)
    (h : ∀ w', Mv g w w' → w'.heap.size = w.heap.size → Blk w' g t cells → wpList P ops Q rest (a.put op.dst undef) w') : wpList P ops Q (op :: rest) a w :=
  wpList_store_part hgd ty x y ho g 0 cells hx hy t cs cells hB (by omega) (putA_all cs cells hn) hi h1 h
/-- a variable is made -/
theorem wpList_alloc_new (k : Tmp) (hdst : op.dst = some k) (hgd : op.guard = none) (ty : TypeId) (ho : op.op = .alloc ty) (cells : Array Value)
    (hz : ∀ w, (Instr.alloc ty true (.tuple #[])).run P w = .ok (.pointer (some ⟨w.heap.size, 0, none⟩)) (w.alloc (.cells cells ty)))
    (h : ∀ w' g, g = w.heap.size → Mv w.heap.size w w' → w'.heap.size = g + 1 → Blk w' g ty cells → wpList P ops Q rest (a.put op.dst (.pointer (some ⟨g, 0, none⟩))) w') : wpList P ops Q (op :: rest) a w := by
  refine wpList_plain hgd fun K hK => ?_
  have hrun : (execOp a.eval op).run P w = .ok (.value (.pointer (some ⟨w.heap.size, 0, none⟩))) (w.alloc (.cells cells ty)) := by
    unfold execOp; simp only [ho, Sem.run_bind, hz, Result.andThen_ok, Sem.run_pure]
  unfold Oper.wp; rw [hrun, Oper.upon_value]; exact hK _ _ (h _ _ rfl (Mv.of_below ((Below.refl _ _).alloc (Nat.le_refl _) _)) (by simp) (Blk.new w ty cells))
/-- a parameter is laid into memory -/
theorem wpList_box_new (k : Tmp) (hdst : op.dst = some k) (hgd : op.guard = none) (ty : TypeId) (x : Operand) (ho : op.op = .box ty x) (cells : Array Value) (hx : a.eval x = .agg cells)
    (hz : ∀ w, (Instr.box ty (.agg cells)).run P w = .ok (.pointer (some ⟨w.heap.size, 0, none⟩)) (w.alloc (.cells cells ty)))
    (h : ∀ w' g, g = w.heap.size → Mv w.heap.size w w' → w'.heap.size = g + 1 → Blk w' g ty cells → wpList P ops Q rest (a.put op.dst (.pointer (some ⟨g, 0, none⟩))) w') : wpList P ops Q (op :: rest) a w := by
  refine wpList_plain hgd fun K hK => ?_
  have hrun : (execOp a.eval op).run P w = .ok (.value (.pointer (some ⟨w.heap.size, 0, none⟩))) (w.alloc (.cells cells ty)) := by
    unfold execOp; simp only [ho, hx, Sem.run_bind, hz, Result.andThen_ok, Sem.run_pure]
  unfold Oper.wp; rw [hrun, Oper.upon_value]; exact hK _ _ (h _ _ rfl (Mv.of_below ((Below.refl _ _).alloc (Nat.le_refl _) _)) (by simp) (Blk.new w ty cells))
end
theorem Mv.trans {g : Nat} {a b c : World} (h : Mv g a b) (k : Mv g b c) : Mv g a c :=
  ⟨k.os.trans h.os, k.tape.trans h.tape, k.output.trans h.output, Nat.le_trans h.size k.size, fun i hi hne => (k.block i (by have := h.size; omega) hne).trans (h.block i hi hne)⟩
theorem Mv.below {g : Nat} {a b : World} (h : Below a.heap.size a b) : Mv g a b := ⟨h.os, h.tape, h.output, h.size, fun k hk _ => h.block k hk⟩
theorem Mv.drew (g : Nat) (w : World) : Mv g w w.drew := ⟨rfl, rfl, rfl, Nat.le_refl _, fun _ _ _ => rfl⟩
section
variable {P : Program} {ops : Array Oper} {Q : Exit → Act → World → Prop} {md : Region.Mode} {S : World → Prop}
/-- the one operation that may come up next -/
theorem wpAnyH_one (i : Nat) {oi : Oper} {fuel : Nat} {listed : Array Bool} {a : Act} {w : World} (hi0 : ops.toList[i]? = some oi) (hr : Region.ready md ops listed = [i]) (hg : oi.guard = none)
    (h : ∀ K' : Act → World → Prop, Shut (∀ a w, S w → (S w → wpAnyH P md ops Q S fuel (listed.setIfInBounds i true) a w) → K' a w) → Oper.wp P oi a w K' Q) : wpAnyH P md ops Q S (fuel + 1) listed a w :=
  have hi : ops[i]? = some oi := (by rw [← Array.getElem?_toList]; exact hi0)
  wpAnyH_ready hr (by simp) (AllReadyH.cons hi (fun K' hK => by
    have hw : Region.wanted oi (yielded ops a.tmps) = true := (by simp [Region.wanted, hg]); rw [if_pos hw]
    exact h K' hK) AllReadyH.nil)
/-- the one operation that may come up next, a guarded one whose guard holds -/
theorem wpAnyH_onew (i : Nat) {oi : Oper} {fuel : Nat} {listed : Array Bool} {a : Act} {w : World} (hi0 : ops.toList[i]? = some oi) (hr : Region.ready md ops listed = [i]) (hw : Region.wanted oi (yielded ops a.tmps) = true)
    (h : ∀ K' : Act → World → Prop, Shut (∀ a w, S w → (S w → wpAnyH P md ops Q S fuel (listed.setIfInBounds i true) a w) → K' a w) → Oper.wp P oi a w K' Q) : wpAnyH P md ops Q S (fuel + 1) listed a w :=
  have hi : ops[i]? = some oi := (by rw [← Array.getElem?_toList]; exact hi0)
  wpAnyH_ready hr (by simp) (AllReadyH.cons hi (fun K' hK => by
    rw [if_pos hw]
    exact h K' hK) AllReadyH.nil)
/-- an operation that yields whatever the world is, taken first -/
theorem wpAnyH_pure (i : Nat) {oi : Oper} {v : Value} {fuel : Nat} {listed : Array Bool} {a : Act} {w : World} (hi0 : ops.toList[i]? = some oi)
    (hs : Region.noSelect ops = true) (hf : Region.free md ops listed i = true) (hr : (Region.ready md ops listed).contains i = true)
    (hQ : ∀ c a w, Q (.panic c) (a.put oi.dst v) w → Q (.panic c) a w) (hg : oi.guard = none) (hy : ∀ w, (execOp a.eval oi).run P w = .ok (.value v) w) (hS : S w)
    (h : wpAnyH P md ops Q S fuel (listed.setIfInBounds i true) (a.put oi.dst v) w) : wpAnyH P md ops Q S (fuel + 1) listed a w :=
  have hi : ops[i]? = some oi := (by rw [← Array.getElem?_toList]; exact hi0)
  wpAnyH_take hi hs hf hr hQ (.inl ⟨by simp [Region.wanted, hg], fun w _ => hy w⟩) hS h
/-- a load of what S keeps, taken first -/
theorem wpAnyH_load (i : Nat) {oi : Oper} {fuel : Nat} {listed : Array Bool} {a : Act} {w : World} (ty : TypeId) (x : Operand) (hi0 : ops.toList[i]? = some oi) (ho : oi.op = .load ty x) (hg : oi.guard = none)
    (g o : Nat) (hx : a.eval x = .pointer (some ⟨g, o, none⟩)) (vs : Array Value) (d : TypeDesc) (hR : ∀ w, S w → w.rangeAt g o vs.toList) (hu : P.underlying ty = some d) (hd : d.isRow = true) (hz : (P.info? ty).map (·.size) = some vs.size)
    (hs : Region.noSelect ops = true) (hf : Region.free md ops listed i = true) (hr : (Region.ready md ops listed).contains i = true)
    (hQ : ∀ c a w, Q (.panic c) (a.put oi.dst (.agg vs)) w → Q (.panic c) a w) (hS : S w)
    (h : wpAnyH P md ops Q S fuel (listed.setIfInBounds i true) (a.put oi.dst (.agg vs)) w) : wpAnyH P md ops Q S (fuel + 1) listed a w := by
  have hi : ops[i]? = some oi := (by rw [← Array.getElem?_toList]; exact hi0); have hy := yieldsIf_load_mid (P := P) (ops := ops) (S := S) (op := oi) (a := a) (by simp [Region.wanted, hg]) ty x ho g o hx vs.toList d hR hu hd (by rw [hz]; simp); rw [Array.toArray_toList] at hy; exact wpAnyH_take hi hs hf hr hQ hy hS h
/-- a load of one cell that S keeps, taken first -/
theorem wpAnyH_cell (i : Nat) {oi : Oper} {fuel : Nat} {listed : Array Bool} {a : Act} {w : World} {v : Value} (hi0 : ops.toList[i]? = some oi) (hg : oi.guard = none)
    (hy : ∀ w, S w → (execOp a.eval oi).run P w = .ok (.value v) w)
    (hs : Region.noSelect ops = true) (hf : Region.free md ops listed i = true) (hr : (Region.ready md ops listed).contains i = true)
    (hQ : ∀ c a w, Q (.panic c) (a.put oi.dst v) w → Q (.panic c) a w) (hS : S w)
    (h : wpAnyH P md ops Q S fuel (listed.setIfInBounds i true) (a.put oi.dst v) w) : wpAnyH P md ops Q S (fuel + 1) listed a w :=
  have hi : ops[i]? = some oi := (by rw [← Array.getElem?_toList]; exact hi0)
  wpAnyH_take hi hs hf hr hQ (.inl ⟨by simp [Region.wanted, hg], hy⟩) hS h
end
section
variable {P : Program} {op : Oper} {a : Act} {w : World} {K : Act → World → Prop} {Q : Exit → Act → World → Prop}
theorem wp_store_part (ty : TypeId) (x y : Operand) (ho : op.op = .store ty x y)
    (g o : Nat) (cells : Array Value) (hx : a.eval x = .pointer (some ⟨g, o, none⟩)) (hy : a.eval y = .agg cells)
    (t : TypeId) (cs cs' : Array Value) (hB : Blk w g t cs) (hn : o + cells.size ≤ cs.size) (hp : putA cs o cells.toList = cs')
    (hi : (P.info? ty).map (·.size) = some cells.size) (h1 : cells.all (·.oneCell') = true)
    (h : ∀ w', Mv g w w' → w'.heap.size = w.heap.size → Blk w' g t cs' → K (a.put op.dst undef) w') : op.wp P a w K Q := by
  refine wp_store_mid ty x y ho g o cells hx hy (hB.there o _ hn) hi h1 (h _ (Mv.setCells _ _ _ _) (setCells_size _ _ _ _) ?_); rw [← hp]; exact Blk.setCells (w := w) _ _ _ _ hB
theorem wp_load_all (ty : TypeId) (x : Operand) (ho : op.op = .load ty x) (g : Nat) (hx : a.eval x = .pointer (some ⟨g, 0, none⟩)) (t : TypeId) (cs : Array Value) (d : TypeDesc) (hB : Blk w g t cs)
    (hu : P.underlying ty = some d) (hd : d.isRow = true) (hi : (P.info? ty).map (·.size) = some cs.size) (h : K (a.put op.dst (.agg cs)) w) : op.wp P a w K Q := by
  have hr : w.rangeAt g 0 cs.toList := by
    have := World.rangeAt_of_block hB 0 cs.size; rw [Nat.zero_add, Array.extract_size] at this; exact this
  refine wp_load_mid ty x ho g 0 hx cs.toList d hr hu hd (by rw [hi]; simp) ?_; rw [Array.toArray_toList]; exact h
end
theorem wpList_store_int {P : Program} {ops : Array Oper} {rest : List Oper} {op : Oper} {a : Act} {w : World} {Q : Exit → Act → World → Prop} (hgd : op.guard = none) (ty : TypeId) (x y : Operand) (ho : op.op = .store ty x y)
    (g o : Nat) (k : IntKind) (z : Int) (hx : a.eval x = .pointer (some ⟨g, o, none⟩)) (hy : a.eval y = .int k z)
    (t : TypeId) (cs cs' : Array Value) (hB : Blk w g t cs) (hn : o < cs.size) (hp : cs.setIfInBounds o (.int k z) = cs')
    (hi : (P.info? ty).map (·.size) = some 1)
    (h : ∀ w', Mv g w w' → w'.heap.size = w.heap.size → Blk w' g t cs' → wpList P ops Q rest (a.put op.dst undef) w') : wpList P ops Q (op :: rest) a w := by
  have ht := hB.there o 1 (by omega)
  have hrun : (storeVar ty ⟨g, o, none⟩ (.int k z)).run P w = .ok () (w.setCells g o [.int k z]) := by
    have := run_storeCells_cells (P := P) g o [.int k z] 0 w (fun j hj => by simpa using (ht j (by simpa using hj)).1) (fun j hj => by simpa using (ht j (by simpa using hj)).2)
      (fun v hv => by simp at hv; subst hv; rfl)
    cases hq : P.info? ty with
    | none => simp [hq] at hi
    | some i =>
      have hs : i.size = 1 := (by simpa [hq] using hi); simp only [Nat.add_zero] at this; simp [storeVar, sizeOf, typeInfo, hq, Value.cells, hs, this]
  refine wpList_plain hgd fun _ hK => ?_
  unfold Oper.wp execOp; simp only [ho, hx, hy, Instr.storeAt, Instr.sureAddr, Sem.run_bind, Sem.run_pure, Result.andThen_ok, hrun]; refine hK _ _ (h _ (Mv.setCells _ _ _ _) (setCells_size _ _ _ _) ?_); rw [← hp]; exact Blk.setCells (w := w) [.int k z] o _ _ hB
theorem own_mv {w w' : World} {g base size n : Nat} {e : TypeId} {v : Value} {xs : List Value} (h : w.ownsRow base e size v n xs) (hm : Mv g w w') (hne : ∀ k, v.ownBlock = some k → k ≠ g) : w'.ownsRow base e size v n xs := by
  refine ⟨h.1, ?_⟩; rcases h.2 with h0 | ⟨b, cap, cur, e1, hb, hh, h1⟩
  · exact .inl h0
  · subst e1; exact .inr ⟨b, cap, cur, rfl, hb, (hm.block b (Blk.lt (t := e) (cs := cur) hh) (hne b rfl)).trans hh, h1⟩
theorem Sl.v {g : Nat} {w0 w w' : World} (h : Sl (Below w0.heap.size w0 w)) (hm : Mv g w w') (hg : w0.heap.size ≤ g) : Sl (Below w0.heap.size w0 w') := ⟨below_mv h.out hm hg h.out.size⟩
theorem Sl.w {b g : Nat} {t : TypeId} {cs : Array Value} {w w' : World} (h : Sl (Blk w b t cs)) (hm : Mv g w w') (hne : b ≠ g) : Sl (Blk w' b t cs) := ⟨h.out.mv hm hne⟩
theorem Sl.x {b : Nat} {t : TypeId} {cs : Array Value} {w w' : World} (h : Sl (Blk w b t cs)) (hb : Below w.heap.size w w') : Sl (Blk w' b t cs) := ⟨h.out.below hb h.out.lt⟩
theorem Sl.y {w0 w w' : World} (h : Sl (Below w0.heap.size w0 w)) (hb : Below w.heap.size w w') : Sl (Below w0.heap.size w0 w') := ⟨h.out.trans (hb.mono h.out.size)⟩
theorem sS0 {α : Type} (l : List α) (i : Nat) (a : α) : l.toArray.setIfInBounds i a = (l.set i a).toArray := List.setIfInBounds_toArray ..
theorem sS1 {α : Type} (a b : α) (l : List α) : (a :: l).set 0 b = b :: l := rfl
theorem sS2 {α : Type} (a b : α) (l : List α) (n : Nat) : (a :: l).set (n + 1) b = a :: l.set n b := rfl
section
variable {P : Program} {ops : Array Oper} {Q : Exit → Act → World → Prop} {md : Region.Mode} {S : World → Prop}
/-- a guarded load whose guard holds, taken first -/
theorem wpAnyH_loadg (i : Nat) {oi : Oper} {fuel : Nat} {listed : Array Bool} {a : Act} {w : World} (ty : TypeId) (x : Operand) (hi0 : ops.toList[i]? = some oi) (ho : oi.op = .load ty x) (hg : Region.wanted oi (yielded ops a.tmps) = true)
    (g o : Nat) (hx : a.eval x = .pointer (some ⟨g, o, none⟩)) (vs : Array Value) (d : TypeDesc) (hR : ∀ w, S w → w.rangeAt g o vs.toList) (hu : P.underlying ty = some d) (hd : d.isRow = true) (hz : (P.info? ty).map (·.size) = some vs.size)
    (hs : Region.noSelect ops = true) (hf : Region.free md ops listed i = true) (hr : (Region.ready md ops listed).contains i = true)
    (hQ : ∀ c a w, Q (.panic c) (a.put oi.dst (.agg vs)) w → Q (.panic c) a w) (hS : S w)
    (h : wpAnyH P md ops Q S fuel (listed.setIfInBounds i true) (a.put oi.dst (.agg vs)) w) : wpAnyH P md ops Q S (fuel + 1) listed a w := by
  have hi : ops[i]? = some oi := by rw [← Array.getElem?_toList]; exact hi0
  have hy := yieldsIf_load_mid (P := P) (ops := ops) (S := S) (op := oi) (a := a) hg ty x ho g o hx vs.toList d hR hu hd (by rw [hz]; simp)
  rw [Array.toArray_toList] at hy
  exact wpAnyH_take hi hs hf hr hQ hy hS h
/-- a guarded load of one cell whose guard holds, taken first -/
theorem wpAnyH_cellg (i : Nat) {oi : Oper} {fuel : Nat} {listed : Array Bool} {a : Act} {w : World} {v : Value} (hi0 : ops.toList[i]? = some oi) (hg : Region.wanted oi (yielded ops a.tmps) = true)
    (hy : ∀ w, S w → (execOp a.eval oi).run P w = .ok (.value v) w)
    (hs : Region.noSelect ops = true) (hf : Region.free md ops listed i = true) (hr : (Region.ready md ops listed).contains i = true)
    (hQ : ∀ c a w, Q (.panic c) (a.put oi.dst v) w → Q (.panic c) a w) (hS : S w)
    (h : wpAnyH P md ops Q S fuel (listed.setIfInBounds i true) (a.put oi.dst v) w) : wpAnyH P md ops Q S (fuel + 1) listed a w :=
  have hi : ops[i]? = some oi := by rw [← Array.getElem?_toList]; exact hi0
  wpAnyH_take hi hs hf hr hQ (.inl ⟨hg, hy⟩) hS h
/-- a guarded operation whose guard holds, which yields whatever the world is, taken first -/
theorem wpAnyH_pureg (i : Nat) {oi : Oper} {v : Value} {fuel : Nat} {listed : Array Bool} {a : Act} {w : World} (hi0 : ops.toList[i]? = some oi)
    (hs : Region.noSelect ops = true) (hf : Region.free md ops listed i = true) (hr : (Region.ready md ops listed).contains i = true)
    (hQ : ∀ c a w, Q (.panic c) (a.put oi.dst v) w → Q (.panic c) a w) (hg : Region.wanted oi (yielded ops a.tmps) = true) (hy : ∀ w, (execOp a.eval oi).run P w = .ok (.value v) w) (hS : S w)
    (h : wpAnyH P md ops Q S fuel (listed.setIfInBounds i true) (a.put oi.dst v) w) : wpAnyH P md ops Q S (fuel + 1) listed a w :=
  have hi : ops[i]? = some oi := by rw [← Array.getElem?_toList]; exact hi0
  wpAnyH_take hi hs hf hr hQ (.inl ⟨hg, fun w _ => hy w⟩) hS h
/-- a guarded operation whose guard does not hold, taken first -/
theorem wpAnyH_no (i : Nat) {oi : Oper} {fuel : Nat} {listed : Array Bool} {a : Act} {w : World} (hi0 : ops.toList[i]? = some oi)
    (hs : Region.noSelect ops = true) (hf : Region.free md ops listed i = true) (hr : (Region.ready md ops listed).contains i = true)
    (hQ : ∀ c a w, Q (.panic c) (a.put oi.dst undef) w → Q (.panic c) a w) (hg : Region.wanted oi (yielded ops a.tmps) = false) (hS : S w)
    (h : wpAnyH P md ops Q S fuel (listed.setIfInBounds i true) (a.put oi.dst undef) w) : wpAnyH P md ops Q S (fuel + 1) listed a w :=
  have hi : ops[i]? = some oi := by rw [← Array.getElem?_toList]; exact hi0
  wpAnyH_take hi hs hf hr hQ (.inr ⟨hg, rfl⟩) hS h
end
/-- one cell of a variable is replaced -/
theorem wpList_store_cell {P : Program} {ops : Array Oper} {rest : List Oper} {op : Oper} {a : Act} {w : World} {Q : Exit → Act → World → Prop} (hgd : op.guard = none) (ty : TypeId) (x y : Operand) (ho : op.op = .store ty x y)
    (g o : Nat) (v : Value) (hx : a.eval x = .pointer (some ⟨g, o, none⟩)) (hy : a.eval y = v)
    (t : TypeId) (cs cs' : Array Value) (hB : Blk w g t cs) (hn : o < cs.size) (hp : cs.setIfInBounds o v = cs')
    (hi : (P.info? ty).map (·.size) = some 1) (hv : v.cells = #[v]) (hv1 : v.oneCell' = true)
    (h : ∀ w', Mv g w w' → w'.heap.size = w.heap.size → Blk w' g t cs' → w' = w.setCell ⟨g, o, none⟩ v → wpList P ops Q rest (a.put op.dst undef) w') : wpList P ops Q (op :: rest) a w := by
  have ht := hB.there o 1 (by omega)
  have hrun : (storeVar ty ⟨g, o, none⟩ v).run P w = .ok () (w.setCells g o [v]) := by
    have := run_storeCells_cells (P := P) g o [v] 0 w (fun j hj => by simpa using (ht j (by simpa using hj)).1) (fun j hj => by simpa using (ht j (by simpa using hj)).2)
      (fun u hu => by simp at hu; subst hu; exact hv1)
    cases hq : P.info? ty with
    | none => simp [hq] at hi
    | some i =>
      have hs : i.size = 1 := (by simpa [hq] using hi)
      simp only [Nat.add_zero] at this
      simp [storeVar, sizeOf, typeInfo, hq, hv, hs, this]
  refine wpList_plain hgd fun _ hK => ?_
  unfold Oper.wp execOp
  simp only [ho, hx, hy, Instr.storeAt, Instr.sureAddr, Sem.run_bind, Sem.run_pure, Result.andThen_ok, hrun]
  refine hK _ _ (h _ (Mv.setCells _ _ _ _) (setCells_size _ _ _ _) ?_ rfl)
  rw [← hp]
  exact Blk.setCells (w := w) [v] o _ _ hB
/-- one cell of a row of the call's own is replaced -/
theorem wpList_store_own {P : Program} {ops : Array Oper} {rest : List Oper} {op : Oper} {a : Act} {w : World} {Q : Exit → Act → World → Prop} (hgd : op.guard = none) (ty : TypeId) (x y : Operand) (ho : op.op = .store ty x y)
    (g o : Nat) (v : Value) (hx : a.eval x = .pointer (some ⟨g, o, none⟩)) (hy : a.eval y = v)
    (base : Nat) (e : TypeId) (size n cap : Nat) (xs : List Value) (hown : w.ownsRow base e size (.slice (some ⟨g, 0, none⟩) n cap) n xs) (hn : o < n * size)
    (hi : (P.info? ty).map (·.size) = some 1) (hv : v.cells = #[v]) (hv1 : v.oneCell' = true)
    (h : ∀ w', Mv g w w' → w'.heap.size = w.heap.size → w'.ownsRow base e size (.slice (some ⟨g, 0, none⟩) n cap) n (xs.set o v) → wpList P ops Q rest (a.put op.dst undef) w') : wpList P ops Q (op :: rest) a w := by
  have hs := (hown.stored o v).1
  rcases hown.2 with ⟨h1, _⟩ | ⟨g', cap', cur, e1, _, hh, hnc, _, hcs, _⟩
  · cases h1
  · injection e1 with e1 e2 e3
    injection e1 with e1
    injection e1 with e1
    subst e1 e3
    refine wpList_store_cell hgd ty x y ho g o v hx hy e cur _ hh ?_ rfl hi hv hv1 fun w' h1 h2 _ h4 => h w' h1 h2 (by rw [h4]; exact hs)
    rw [hcs]
    exact Nat.lt_of_lt_of_le hn (Nat.mul_le_mul_right _ hnc)
theorem Mv.of_grown {w w' : World} {row : Option Nat} {g : Nat} (h : w.grownBy w' row) (hr : ∀ k, row = some k → k = g) : Mv g w w' := by
  obtain ⟨h1, h2, h3, h4, h5⟩ := h
  exact ⟨h1, h2, h3, h4, fun k hk hne => h5 k hk (fun e => hne (hr k e.symm))⟩
end Go.Proofs.YtbaojmfkjpnfhaaGreatDoor
