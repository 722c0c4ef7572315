/- slices.Insert of one registration: into a new row; at any place. (Printed by gensqe.py.) -/
import Derived.Test.YtabkpbbjodfolaaGreatDoorZvHa
import Derived.Test.YtabkpbbjodfolaaGreatDoorZvH
namespace Go.Proofs.YtabkpbbjodfolaaGreatDoor
set_option linter.unusedSimpArgs false
open Go.RowKit
set_option linter.unusedVariables false
end Go.Proofs.YtabkpbbjodfolaaGreatDoor
namespace Go.Proofs.YtabkpbbjodfolaaGreatDoor
set_option linter.unusedSimpArgs false
open Go.RowKit
set_option linter.unusedVariables false
def Dep (w : World) (imm : Nat → Prop) (P : World → Prop) : Prop := ∀ w', MvP (fun i => ¬ imm i) w w' → P w'
theorem Dep.now {w : World} {imm : Nat → Prop} {P : World → Prop} (h : Dep w imm P) : P w := h w (MvP.refl _ _)
theorem Dep.go {w w' : World} {imm p : Nat → Prop} {P : World → Prop} (h : Dep w imm P) (hm : MvP p w w') (hp : ∀ i, imm i → ¬ p i) : Dep w' imm P := fun w2 h2 => h w2 ((hm.mono fun i e e2 => hp i e2 e).trans h2)
theorem Dep.more {w : World} {imm imm' : Nat → Prop} {P : World → Prop} (h : Dep w imm P) (hi : ∀ i, imm i → imm' i) : Dep w imm' P := fun w2 h2 => h w2 (h2.mono fun i e e2 => e (hi i e2))
theorem Dep.blk {w : World} {imm : Nat → Prop} {g : Nat} {t : TypeId} {cs : Array Value} (h : Blk w g t cs) (hg : imm g) : Dep w imm fun w' => Blk w' g t cs := fun w' hm => hm.blk h (fun e => e hg)
theorem Dep.old {w : World} {imm : Nat → Prop} {P : World → Prop} (h : ∀ w', Below w.heap.size w w' → P w') (hi : ∀ i, i < w.heap.size → imm i) : Dep w imm P :=
  fun w' hm => h w' ⟨hm.os, hm.tape, hm.output, hm.size, fun k hk => hm.block k hk (fun e => e (hi k hk))⟩
structure SqM where
  q : Nat
  FA : Option Addr
  fc : Nat
  EA : Option Addr
  ec : Nat
  VE : List (Value × Value)
  imm : Nat → Prop
def blkOf (A : Option Addr) (i : Nat) : Prop := ∃ ad, A = some ad ∧ ad.block = i
theorem blkOf_own {A : Option Addr} {n c i : Nat} : blkOf A i ↔ (Value.slice A n c).ownBlock = some i := by
  cases A with
  | none => exact ⟨(fun ⟨_, h, _⟩ => by cases h), (fun h => by cases h)⟩
  | some a => exact ⟨(fun ⟨ad, h, e⟩ => by injection h with h; subst h; exact congrArg some e), (fun h => ⟨a, rfl, by injection h⟩)⟩
def SqM.own (m : SqM) (i : Nat) : Prop := i = m.q ∨ blkOf m.FA i ∨ blkOf m.EA i
def SqM.held (m : SqM) (i : Nat) : Prop := m.own i ∨ m.imm i
def sqC (o : SpO) (m : SqM) (V : SqV RgV) : Array Value :=
  #[.bool true, .slice o.A1 o.n1 o.c1, .slice o.A2 o.n2 o.c2, .slice o.A3 o.n3 o.c3, .slice o.A4 o.n4 o.c4, .slice m.FA V.L.length m.fc, .int .i64 (V.p : Int), .slice m.EA V.E.length m.ec, .int .i64 (V.d : Int)]
def edC (x : EdV RgV × Value × Value) : List Value := [x.2.1, x.2.2, .int .i64 (x.1.b : Int), .int .i64 (x.1.a : Int)]
abbrev ptr (b : Nat) : Value := .pointer (some ⟨b, 0, none⟩)
def EdF (w : World) (imm : Nat → Prop) (q : Nat) : Ed RgV → Value → Value → Prop
  | .ins p r, u, v => ∃ bq ba br, imm bq ∧ imm ba ∧ imm br ∧ v = .func (.func 45) #[] #[ptr bq, ptr ba, ptr br] ∧ u = .func (.func 47) #[] #[ptr bq, ptr ba] ∧
      Blk w bq 24 #[ptr q] ∧ Blk w ba 3 #[.int .i64 (p : Int)] ∧ Blk w br 45 #[.slice r.A r.n r.c, .slice r.B r.m r.d] ∧ Dep w imm fun w' => RgM w' r
  | .rep p r o, u, v => ∃ bq ba br bo, imm bq ∧ imm ba ∧ imm br ∧ imm bo ∧ v = .func (.func 80) #[] #[ptr br, ptr bq, ptr ba] ∧ u = .func (.func 81) #[] #[ptr bo, ptr bq, ptr ba] ∧
      Blk w bq 24 #[ptr q] ∧ Blk w ba 3 #[.int .i64 (p : Int)] ∧ Blk w br 45 #[.slice r.A r.n r.c, .slice r.B r.m r.d] ∧ Blk w bo 45 #[.slice o.A o.n o.c, .slice o.B o.m o.d] ∧ (Dep w imm fun w' => RgM w' r) ∧ Dep w imm fun w' => RgM w' o
  | .del p o, u, v => ∃ bq ba bo, imm bq ∧ imm ba ∧ imm bo ∧ v = .func (.func 65) #[] #[ptr bq, ptr ba] ∧ u = .func (.func 66) #[] #[ptr bq, ptr ba, ptr bo] ∧
      Blk w bq 24 #[ptr q] ∧ Blk w ba 3 #[.int .i64 (p : Int)] ∧ Blk w bo 45 #[.slice o.A o.n o.c, .slice o.B o.m o.d] ∧ Dep w imm fun w' => RgM w' o
theorem EdF.go {w w' : World} {imm p : Nat → Prop} {q : Nat} {e : Ed RgV} {u v : Value} (h : EdF w imm q e u v) (hm : MvP p w w') (hp : ∀ i, imm i → ¬ p i) : EdF w' imm q e u v := by
  cases e with
  | ins a r =>
    obtain ⟨bq, ba, br, i1, i2, i3, e1, e2, b1, b2, b3, d⟩ := h; exact ⟨bq, ba, br, i1, i2, i3, e1, e2, hm.blk b1 (hp _ i1), hm.blk b2 (hp _ i2), hm.blk b3 (hp _ i3), d.go hm hp⟩
  | rep a r o =>
    obtain ⟨bq, ba, br, bo, i1, i2, i3, i4, e1, e2, b1, b2, b3, b4, d1, d2⟩ := h; exact ⟨bq, ba, br, bo, i1, i2, i3, i4, e1, e2, hm.blk b1 (hp _ i1), hm.blk b2 (hp _ i2), hm.blk b3 (hp _ i3), hm.blk b4 (hp _ i4), d1.go hm hp, d2.go hm hp⟩
  | del a o =>
    obtain ⟨bq, ba, bo, i1, i2, i3, e1, e2, b1, b2, b3, d⟩ := h; exact ⟨bq, ba, bo, i1, i2, i3, e1, e2, hm.blk b1 (hp _ i1), hm.blk b2 (hp _ i2), hm.blk b3 (hp _ i3), d.go hm hp⟩
theorem EdF.more {w : World} {imm imm' : Nat → Prop} {q : Nat} {e : Ed RgV} {u v : Value} (h : EdF w imm q e u v) (hi : ∀ i, imm i → imm' i) : EdF w imm' q e u v := by
  cases e with
  | ins a r =>
    obtain ⟨bq, ba, br, i1, i2, i3, e1, e2, b1, b2, b3, d⟩ := h; exact ⟨bq, ba, br, hi _ i1, hi _ i2, hi _ i3, e1, e2, b1, b2, b3, d.more hi⟩
  | rep a r o =>
    obtain ⟨bq, ba, br, bo, i1, i2, i3, i4, e1, e2, b1, b2, b3, b4, d1, d2⟩ := h; exact ⟨bq, ba, br, bo, hi _ i1, hi _ i2, hi _ i3, hi _ i4, e1, e2, b1, b2, b3, b4, d1.more hi, d2.more hi⟩
  | del a o =>
    obtain ⟨bq, ba, bo, i1, i2, i3, e1, e2, b1, b2, b3, d⟩ := h; exact ⟨bq, ba, bo, hi _ i1, hi _ i2, hi _ i3, e1, e2, b1, b2, b3, d.more hi⟩
structure SQ (w : World) (base : Nat) (o : SpO) (m : SqM) (V : SqV RgV) : Prop where
  blk : Blk w m.q 96 (sqC o m V)
  qb : base ≤ m.q
  fr : w.ownsRow base 45 2 (.slice m.FA V.L.length m.fc) V.L.length (V.L.flatMap RgV.cells)
  ed : w.ownsRow base 112 4 (.slice m.EA V.E.length m.ec) V.E.length ((V.E.zip m.VE).flatMap edC)
  ni : ∀ i, m.own i → ¬ m.imm i
  lt : ∀ i, m.imm i → i < w.heap.size
  sp : Dep w m.imm fun w' => SpM w' o
  rg : ∀ r ∈ V.L, Dep w m.imm fun w' => RgM w' r
  vn : m.VE.length = V.E.length
  ev : ∀ (i : Nat) (x : EdV RgV) (y : Value × Value), V.E[i]? = some x → m.VE[i]? = some y → EdF w m.imm m.q x.e y.1 y.2
theorem SQ.keep {w w' : World} {base : Nat} {o : SpO} {m : SqM} {V : SqV RgV} (h : SQ w base o m V) {p : Nat → Prop} (hm : MvP p w w') (hp : ∀ i, m.held i → ¬ p i) : SQ w' base o m V := by
  have hi : ∀ i, m.imm i → ¬ p i := fun i e => hp i (.inr e)
  exact ⟨hm.blk h.blk (hp _ (.inl (.inl rfl))), h.qb, hm.own h.fr (fun k e => hp k (.inl (.inr (.inl (blkOf_own.2 e))))), hm.own h.ed (fun k e => hp k (.inl (.inr (.inr (blkOf_own.2 e))))), h.ni,
    fun i e => Nat.lt_of_lt_of_le (h.lt i e) hm.size, h.sp.go hm hi, fun r hr => (h.rg r hr).go hm hi, h.vn, fun i x y h1 h2 => (h.ev i x y h1 h2).go hm hi⟩
theorem SQ.below {w w' : World} {base : Nat} {o : SpO} {m : SqM} {V : SqV RgV} (h : SQ w base o m V) (hb : Below w.heap.size w w') : SQ w' base o m V := h.keep (MvP.of_below hb) (fun _ _ e => e)
theorem SQ.more {w : World} {base : Nat} {o : SpO} {m : SqM} {V : SqV RgV} (h : SQ w base o m V) {imm' : Nat → Prop} (hi : ∀ i, m.imm i → imm' i) (hn : ∀ i, m.own i → ¬ imm' i) (hl : ∀ i, imm' i → i < w.heap.size) : SQ w base o { m with imm := imm' } V :=
  ⟨h.blk, h.qb, h.fr, h.ed, hn, hl, h.sp.more hi, fun r hr => (h.rg r hr).more hi, h.vn, fun i x y h1 h2 => (h.ev i x y h1 h2).more hi⟩
structure Foot (m m' : SqM) (w w' : World) : Prop where
  mv : MvP m.own w w'
  held : ∀ i, m'.held i → m.held i ∨ w.heap.size ≤ i
  own : ∀ i, m'.own i → m.own i ∨ w.heap.size ≤ i
  q : m'.q = m.q
theorem Foot.refl (m : SqM) (w : World) : Foot m m w w := ⟨MvP.refl _ _, fun _ h => .inl h, fun _ h => .inl h, rfl⟩
theorem Foot.trans {m m1 m2 : SqM} {w w1 w2 : World} (h : Foot m m1 w w1) (k : Foot m1 m2 w1 w2) : Foot m m2 w w2 :=
  ⟨h.mv.trans2 k.mv (fun i hi e => (h.own i e).resolve_right (by omega)), fun i e => (k.held i e).elim (h.held i) (fun e => .inr (Nat.le_trans h.mv.size e)), fun i e => (k.own i e).elim (h.own i) (fun e => .inr (Nat.le_trans h.mv.size e)), k.q.trans h.q⟩
theorem Foot.of_below {m : SqM} {w w' : World} (h : Below w.heap.size w w') : Foot m m w w' := ⟨(MvP.of_below h).mono fun _ e => e.elim, fun _ h => .inl h, fun _ h => .inl h, rfl⟩
theorem wp_store_celm {P : Program} {op : Oper} {a : Act} {w : World} {K : Act → World → Prop} {Q : Exit → Act → World → Prop} (ty : TypeId) (x y : Operand) (ho : op.op = .store ty x y)
    (g o : Nat) (v : Value) (hx : a.eval x = .pointer (some ⟨g, o, none⟩)) (hy : a.eval y = v)
    (t : TypeId) (cs cs' : Array Value) (hB : Blk w g t cs) (hn : o < cs.size) (hp : cs.setIfInBounds o v = cs') (hi : (P.info? ty).map (·.size) = some 1) (hv : v.cells = #[v]) (hv1 : v.oneCell' = true)
    (h : ∀ w', Mv g w w' → w'.heap.size = w.heap.size → Blk w' g t cs' → K (a.put op.dst undef) w') : op.wp P a w K Q := by
  have ht := hB.there o 1 (by omega)
  have hrun : (storeVar ty ⟨g, o, none⟩ v).run P w = .ok () (w.setCells g o [v]) := by
    have := run_storeCells_cells (P := P) g o [v] 0 w (fun j hj => by simpa using (ht j (by simpa using hj)).1) (fun j hj => by simpa using (ht j (by simpa using hj)).2)
      (fun u hu => by simp at hu; subst hu; exact hv1)
    cases hq : P.info? ty with
    | none => simp [hq] at hi
    | some i =>
      have hs : i.size = 1 := (by simpa [hq] using hi); simp only [Nat.add_zero] at this; simp [storeVar, sizeOf, typeInfo, hq, hv, hs, this]
  unfold Oper.wp execOp; simp only [ho, hx, hy, Instr.storeAt, Instr.sureAddr, Sem.run_bind, Sem.run_pure, Result.andThen_ok, hrun]; refine h _ (Mv.setCells _ _ _ _) (setCells_size _ _ _ _) ?_; rw [← hp]; exact Blk.setCells (w := w) [v] o _ _ hB
end Go.Proofs.YtabkpbbjodfolaaGreatDoor
namespace Go.Proofs.YtabkpbbjodfolaaGreatDoor
set_option linter.unusedSimpArgs false
open Go.RowKit
set_option linter.unusedVariables false
section
variable {P : Program} {ops : Array Oper} {Q : Exit → Act → World → Prop} {md : Region.Mode} {S : World → Prop} {L : Nat}
def wpAnyE (P : Program) (md : Region.Mode) (ops : Array Oper) (Q : Exit → Act → World → Prop) (S : World → Prop) (L : Nat) : Nat → Array Bool → Act → World → Prop
  | 0, l, a, w => Region.ready md ops l = [] ∧ Q .normal a w
  | n+1, l, a, w => (Region.ready md ops l = [] → Q .normal a w) ∧ ∀ i ∈ Region.ready md ops l, wpOp P ops Q i (fun a' w' => (i ≠ L → S w') ∧ wpAnyE P md ops Q S L n (l.setIfInBounds i true) a' w') a w
theorem wpAny_of_E : ∀ (n : Nat) (l : Array Bool) (a : Act) (w : World), wpAnyE P md ops Q S L n l a w → wpAny P md ops Q n l a w
  | 0, _, _, _, h => h
  | n+1, _, _, _, h => ⟨h.1, fun i hi => wpOp_mono (fun a' w' h' => wpAny_of_E n _ a' w' h'.2) (h.2 i hi)⟩
def waitsB (md : Region.Mode) (ops : Array Oper) (L i : Nat) : Bool := match ops[L]? with | some o => o.after.any fun e => Region.binds md e && e.on == i | none => true
theorem waits_spec {J : Nat} {l : Array Bool} (h : waitsB md ops L J = true) (hJ : l.getD J true = false) : L ∉ Region.ready md ops l := fun hL => by
  obtain ⟨_, o, ho, hall⟩ := mem_ready.1 hL; unfold waitsB at h; rw [ho] at h; obtain ⟨e, he, h2⟩ := Array.any_eq_true'.1 h; rw [Bool.and_eq_true] at h2; have h3 : e.on = J := (by simpa using h2.2); have h4 := hall e he h2.1; rw [h3] at h4; rcases Nat.lt_or_ge J l.size with h' | h'
  · simp [h'] at hJ h4; rw [hJ] at h4; cases h4
  · simp [Array.getElem?_eq_none h'] at h4
def chainB (md : Region.Mode) (ops : Array Oper) (l : Array Bool) (L i : Nat) : Bool := (List.range ops.size).any fun J => !(l.getD J true) && waitsB md ops L J && (J == i || waitsB md ops J i)
theorem wpAnyE_first {i : Nat} {oi : Oper} {v : Value} (hi : ops[i]? = some oi) (hsel : ∀ (j : Nat) (o : Oper) cs b, ops[j]? = some o → o.op ≠ .select cs b)
    (hQ : ∀ c a w, Q (.panic c) (a.put oi.dst v) w → Q (.panic c) a w) {J : Nat} (hL : waitsB md ops L J = true) (hJi : J = i ∨ waitsB md ops J i = true) :
    ∀ (n : Nat) (l : Array Bool) (a : Act) (w : World), l.getD J true = false →
      (∀ j oj, ops[j]? = some oj → j ≠ i → l.getD j true = false → (∀ e ∈ oj.after, Region.binds md e = true → e.on ≠ i) → oi.apart ops oj = true) →
      i ∈ Region.ready md ops l → YieldsIf P ops S oi v a → S w →
      wpAnyE P md ops Q S L n (l.setIfInBounds i true) (a.put oi.dst v) w → wpAnyE P md ops Q S L (n + 1) l a w
  | 0, l, a, w, _, _, hr, hy, hS, H => ⟨fun h => (by rw [h] at hr; cases hr), fun j hj => by
    by_cases hji : j = i
    · subst hji; exact hy.wpOp hi hS ⟨fun _ => hS, H⟩
    · have := ready_mono hj hji; rw [H.1] at this
      cases this⟩
  | n+1, l, a, w, hun, hfree, hr, hy, hS, H => ⟨fun h => (by rw [h] at hr; cases hr), fun j hj => by
    by_cases hji : j = i
    · subst hji; exact hy.wpOp hi hS ⟨fun _ => hS, H⟩
    · have hjL : j ≠ L := fun e => waits_spec hL hun (e ▸ hj)
      have hjJ : j ≠ J := fun e => hJi.elim (fun e2 => hji (e.trans e2)) fun h2 => waits_spec h2 (mem_ready.1 hr).1 (e ▸ hj)
      obtain ⟨hjun, oj, hoj, hall⟩ := mem_ready.1 hj
      have hnot : ∀ e ∈ oj.after, Region.binds md e = true → e.on ≠ i := fun e he hb heq => by
        have h1 := hall e he hb; have h0 := (mem_ready.1 hr).1; rw [heq] at h1; rcases Nat.lt_or_ge i l.size with h' | h'
        · simp [h'] at h0 h1; rw [h0] at h1; cases h1
        · simp [Array.getElem?_eq_none h'] at h1
      refine wpOp_mono (fun a' w' h3 => ⟨h3.2.1, wpAnyE_first hi hsel hQ hL hJi n (l.setIfInBounds j true) a' w' (by rw [getD_set_ne true hjJ]; exact hun) (fun k ok hk hki hun2 hno => ?_) (ready_mono hr (Ne.symm hji)) h3.1 (h3.2.1 hjL) ?_⟩)
        (wpOp_putIf hoj (hfree j oj hoj hji hjun hnot) (fun cs b => hsel i oi cs b hi) (fun cs b => hsel j oj cs b hoj) hQ hy (H.2 j (ready_mono hj hji)))
      · refine hfree k ok hk hki ?_ hno
        by_cases hjk : j = k
        · subst hjk; exact hjun
        · rw [getD_set_ne true hjk] at hun2; exact hun2
      · rw [Array.setIfInBounds_comm _ _ hji]
        exact h3.2.2⟩
theorem wpAnyE_take {i : Nat} {oi : Oper} {v : Value} {n : Nat} {l : Array Bool} {a : Act} {w : World} (hi : ops[i]? = some oi)
    (hs : Region.noSelect ops = true) (hf : Region.free md ops l i = true) (hr : (Region.ready md ops l).contains i = true) (hL : chainB md ops l L i = true)
    (hQ : ∀ c a w, Q (.panic c) (a.put oi.dst v) w → Q (.panic c) a w) (hy : YieldsIf P ops S oi v a) (hS : S w)
    (h : wpAnyE P md ops Q S L n (l.setIfInBounds i true) (a.put oi.dst v) w) : wpAnyE P md ops Q S L (n + 1) l a w :=
  by
  obtain ⟨J, _, hJ⟩ := List.any_eq_true.1 hL; rw [Bool.and_eq_true, Bool.and_eq_true, Bool.or_eq_true] at hJ; exact wpAnyE_first hi (Region.noSelect_spec hs) hQ hJ.1.2 (hJ.2.imp (fun e => by simpa using e) id) n l a w (by simpa using hJ.1.1) (Region.free_spec hi hf) (by simpa using hr) hy hS h
theorem wpAnyE_pure (i : Nat) {oi : Oper} {v : Value} {n : Nat} {l : Array Bool} {a : Act} {w : World} (hi0 : ops.toList[i]? = some oi)
    (hs : Region.noSelect ops = true) (hf : Region.free md ops l i = true) (hr : (Region.ready md ops l).contains i = true) (hL : chainB md ops l L i = true)
    (hQ : ∀ c a w, Q (.panic c) (a.put oi.dst v) w → Q (.panic c) a w) (hg : oi.guard = none) (hy : ∀ w, (execOp a.eval oi).run P w = .ok (.value v) w) (hS : S w)
    (h : wpAnyE P md ops Q S L n (l.setIfInBounds i true) (a.put oi.dst v) w) : wpAnyE P md ops Q S L (n + 1) l a w :=
  have hi : ops[i]? = some oi := (by rw [← Array.getElem?_toList]; exact hi0)
  wpAnyE_take hi hs hf hr hL hQ (.inl ⟨by simp [Region.wanted, hg], fun w _ => hy w⟩) hS h
theorem wpAnyE_load (i : Nat) {oi : Oper} {n : Nat} {l : Array Bool} {a : Act} {w : World} (ty : TypeId) (x : Operand) (hi0 : ops.toList[i]? = some oi) (ho : oi.op = .load ty x) (hg : oi.guard = none)
    (g o : Nat) (hx : a.eval x = .pointer (some ⟨g, o, none⟩)) (vs : Array Value) (d : TypeDesc) (hR : ∀ w, S w → w.rangeAt g o vs.toList) (hu : P.underlying ty = some d) (hd : d.isRow = true) (hz : (P.info? ty).map (·.size) = some vs.size)
    (hs : Region.noSelect ops = true) (hf : Region.free md ops l i = true) (hr : (Region.ready md ops l).contains i = true) (hL : chainB md ops l L i = true)
    (hQ : ∀ c a w, Q (.panic c) (a.put oi.dst (.agg vs)) w → Q (.panic c) a w) (hS : S w)
    (h : wpAnyE P md ops Q S L n (l.setIfInBounds i true) (a.put oi.dst (.agg vs)) w) : wpAnyE P md ops Q S L (n + 1) l a w := by
  have hi : ops[i]? = some oi := (by rw [← Array.getElem?_toList]; exact hi0); have hy := yieldsIf_load_mid (P := P) (ops := ops) (S := S) (op := oi) (a := a) (by simp [Region.wanted, hg]) ty x ho g o hx vs.toList d hR hu hd (by rw [hz]; simp); rw [Array.toArray_toList] at hy; exact wpAnyE_take hi hs hf hr hL hQ hy hS h
theorem wpAnyE_cell (i : Nat) {oi : Oper} {n : Nat} {l : Array Bool} {a : Act} {w : World} {v : Value} (hi0 : ops.toList[i]? = some oi) (hg : oi.guard = none)
    (hy : ∀ w, S w → (execOp a.eval oi).run P w = .ok (.value v) w)
    (hs : Region.noSelect ops = true) (hf : Region.free md ops l i = true) (hr : (Region.ready md ops l).contains i = true) (hL : chainB md ops l L i = true)
    (hQ : ∀ c a w, Q (.panic c) (a.put oi.dst v) w → Q (.panic c) a w) (hS : S w)
    (h : wpAnyE P md ops Q S L n (l.setIfInBounds i true) (a.put oi.dst v) w) : wpAnyE P md ops Q S L (n + 1) l a w :=
  have hi : ops[i]? = some oi := (by rw [← Array.getElem?_toList]; exact hi0)
  wpAnyE_take hi hs hf hr hL hQ (.inl ⟨by simp [Region.wanted, hg], hy⟩) hS h
theorem wpAnyE_one (i : Nat) {oi : Oper} {n : Nat} {l : Array Bool} {a : Act} {w : World} (hi0 : ops.toList[i]? = some oi) (hr : Region.ready md ops l = [i]) (hg : oi.guard = none)
    (h : ∀ K' : Act → World → Prop, Shut (∀ a w, (i ≠ L → S w) → ((i ≠ L → S w) → wpAnyE P md ops Q S L n (l.setIfInBounds i true) a w) → K' a w) → Oper.wp P oi a w K' Q) : wpAnyE P md ops Q S L (n + 1) l a w := by
  have hi : ops[i]? = some oi := (by rw [← Array.getElem?_toList]; exact hi0); have hw : Region.wanted oi (yielded ops a.tmps) = true := (by simp [Region.wanted, hg]); refine ⟨fun h0 => (by rw [hr] at h0; cases h0), fun j hj => ?_⟩; rw [hr] at hj; obtain rfl := List.mem_singleton.1 hj; unfold Go.wpOp; simp only [hi, hw, if_true]; exact .inl (h _ fun a w h1 h2 => ⟨h1, h2 h1⟩)
theorem wpAnyE_done {l : Array Bool} {a : Act} {w : World} (hr : Region.ready md ops l = []) (h : Q .normal a w) : ∀ n, wpAnyE P md ops Q S L n l a w
  | 0 => ⟨hr, h⟩
  | _ + 1 => ⟨fun _ => h, by rw [hr]; simp⟩
theorem wp_region_E (L : Nat) {id : Nat} {a : Act} {w : World} (hm : P.follows .mixedOrders = true) (hS : S w.drew)
    (h : S w.drew → wpAnyE P .any ops Q S L ops.size (Array.replicate ops.size false) a w.drew) : (Code.region id ops true).wp P Q a w :=
  wp_region_any hm (wpAny_of_E _ _ _ _ (h hS))
end
end Go.Proofs.YtabkpbbjodfolaaGreatDoor
namespace Go.Proofs.YtabkpbbjodfolaaGreatDoor
set_option linter.unusedSimpArgs false
open Go.RowKit
set_option linter.unusedVariables false
theorem own_ne {w : World} {base size n k g : Nat} {e t : TypeId} {v : Value} {xs : List Value} {cs : Array Value} (h : w.ownsRow base e size v n xs) (hk : v.ownBlock = some k) (hB : Blk w g t cs) (ht : e ≠ t) : k ≠ g := by
  rintro rfl; rcases h.2 with ⟨rfl, _⟩ | ⟨b, cap, cur, rfl, _, hh, _⟩
  · cases hk
  · injection hk with hk
    have hk : b = k := hk; subst hk; have hB2 : w.heap[b]? = some (.cells cs t) := hB; rw [hh] at hB2; injection hB2 with hB2
    injection hB2 with _ e2
    exact ht e2
theorem own_nee {w : World} {base size n size' n' k : Nat} {e e' : TypeId} {v v' : Value} {xs xs' : List Value} (h : w.ownsRow base e size v n xs) (h' : w.ownsRow base e' size' v' n' xs') (hk : v.ownBlock = some k) (hk' : v'.ownBlock = some k) (ht : e ≠ e') : False := by
  rcases h'.2 with ⟨rfl, _⟩ | ⟨b, cap, cur, rfl, _, hh, _⟩
  · cases hk'
  · injection hk' with hk'
    have hk' : b = k := hk'; subst hk'; exact own_ne h hk (show Blk w b e' cur from hh) ht rfl
theorem own_lt2 {w : World} {base size n k : Nat} {e : TypeId} {v : Value} {xs : List Value} (h : w.ownsRow base e size v n xs) (hk : v.ownBlock = some k) : base ≤ k ∧ k < w.heap.size := by
  rcases h.2 with ⟨rfl, _⟩ | ⟨b, cap, cur, rfl, hb, hh, _⟩
  · cases hk
  · injection hk with hk
    have hk : b = k := hk; subst hk; exact ⟨hb, Blk.lt (t := e) (cs := cur) hh⟩
theorem fm_take {α : Type} (f : α → List Value) (sz : Nat) (hf : ∀ x, (f x).length = sz) : ∀ (L : List α) (p : Nat), (L.flatMap f).take (p * sz) = (L.take p).flatMap f
  | _, 0 => by simp
  | [], p + 1 => by simp
  | x :: L, p + 1 => by
    rw [List.flatMap_cons, List.take_succ_cons, List.flatMap_cons, List.take_append, List.take_of_length_le (by rw [hf, Nat.succ_mul]; omega), hf, show (p + 1) * sz - sz = p * sz by rw [Nat.succ_mul]; omega, fm_take f sz hf L p]
theorem fm_drop {α : Type} (f : α → List Value) (sz : Nat) (hf : ∀ x, (f x).length = sz) : ∀ (L : List α) (p : Nat), (L.flatMap f).drop (p * sz) = (L.drop p).flatMap f
  | _, 0 => by simp
  | [], p + 1 => by simp
  | x :: L, p + 1 => by
    rw [List.flatMap_cons, List.drop_succ_cons, List.drop_append, List.drop_eq_nil_of_le (by rw [hf, Nat.succ_mul]; omega), hf, show (p + 1) * sz - sz = p * sz by rw [Nat.succ_mul]; omega, List.nil_append, fm_drop f sz hf L p]
theorem SQ.frames {w w' : World} {base : Nat} {o : SpO} {m : SqM} {V : SqV RgV} (h : SQ w base o m V) {FA : Option Addr} {fc : Nat} {L : List RgV}
    (hb : Blk w' m.q 96 (sqC o { m with FA := FA, fc := fc } { V with L := L })) (ho : w'.ownsRow base 45 2 (.slice FA L.length fc) L.length (L.flatMap RgV.cells))
    (hm : MvP (fun i => i = m.q ∨ blkOf m.FA i) w w') (hat : ∀ i, blkOf FA i → blkOf m.FA i ∨ w.heap.size ≤ i) (hr : ∀ r ∈ L, Dep w m.imm fun w' => RgM w' r) :
    SQ w' base o { m with FA := FA, fc := fc } { V with L := L } ∧ Foot m { m with FA := FA, fc := fc } w w' := by
  have hni : ∀ i, m.imm i → ¬ (i = m.q ∨ blkOf m.FA i) := fun i hi e => h.ni i (e.elim .inl fun e => .inr (.inl e)) hi
  have hed : ∀ k, (Value.slice m.EA V.E.length m.ec).ownBlock = some k → ¬ (k = m.q ∨ blkOf m.FA k) := fun k hk e => by
    rcases e with e | e
    · exact own_ne h.ed hk h.blk (by decide) e
    · exact own_nee h.ed h.fr hk (blkOf_own.1 e) (by decide)
  have hown : ∀ i, SqM.own { m with FA := FA, fc := fc } i → m.own i ∨ w.heap.size ≤ i := fun i e => by
    rcases e with e | e | e
    · exact .inl (.inl e)
    · exact (hat i e).imp (fun e => .inr (.inl e)) id
    · exact .inl (.inr (.inr e))
  refine ⟨⟨hb, h.qb, ho, hm.own h.ed hed, fun i e hi => ?_, fun i e => Nat.lt_of_lt_of_le (h.lt i e) hm.size, h.sp.go hm hni, fun r hr' => (hr r hr').go hm hni, h.vn, fun i x y h1 h2 => (h.ev i x y h1 h2).go hm hni⟩,
    ⟨hm.mono fun i e => e.elim .inl fun e => .inr (.inl e), fun i e => ?_, hown, rfl⟩⟩
  · rcases hown i e with e | e
    · exact h.ni i e hi
    · have := h.lt i hi; omega
  · rcases e with e | e
    · exact (hown i e).imp .inl id
    · exact .inl (.inr e)
theorem SQ.cell {w : World} {base : Nat} {o : SpO} {m : SqM} {V : SqV RgV} (h : SQ w base o m V) (j : Nat) {v : Value} (hv : (sqC o m V)[j]? = some v) : w.cell? ⟨m.q, j, none⟩ = some v := (h.blk.cell j).trans hv
end Go.Proofs.YtabkpbbjodfolaaGreatDoor
namespace Go.Proofs.YtabkpbbjodfolaaGreatDoor
set_option linter.unusedSimpArgs false
open Go.RowKit
set_option linter.unusedVariables false
end Go.Proofs.YtabkpbbjodfolaaGreatDoor
namespace Go.Proofs.YtabkpbbjodfolaaGreatDoor
set_option linter.unusedSimpArgs false
open Go.RowKit
set_option linter.unusedVariables false
theorem own_put {w w' : World} {base g n c p : Nat} {e : TypeId} {xs : List Value} {x0 x1 : Value} {cur : Array Value} (h : w.ownsRow base e 2 (.slice (some ⟨g, 0, none⟩) n c) n xs) (hp : p < n) (hc : Blk w g e cur) (hB : Blk w' g e (putA cur (p * 2) [x0, x1])) :
    w'.ownsRow base e 2 (.slice (some ⟨g, 0, none⟩) n c) n (xs.take (p * 2) ++ [x0, x1] ++ xs.drop ((p + 1) * 2)) := by
  have hlen := h.1; rcases h.2 with ⟨h0, _⟩ | ⟨g', cap, cur', e1, hb, hh, hcc, hm, hs, ht⟩
  · cases h0
  · injection e1 with a _ c'
    injection a with a
    injection a with a
    subst a c'; have hc2 : w.heap[g]? = some (.cells cur e) := hc; rw [hh] at hc2; injection hc2 with hc2
    injection hc2 with hc2 _
    subst hc2; have hl : (xs.take (p * 2)).length = p * 2 := (by rw [List.length_take]; omega); refine ⟨?_, .inr ⟨g, c, _, rfl, hb, hB, hcc, hm, by rw [putA_size]; exact hs, ?_⟩⟩
    · rw [List.length_append, List.length_append, hl, List.length_drop, hlen]; show p * 2 + 2 + _ = _; omega
    · apply List.ext_getElem?; intro j; have e2 : [x0, x1].length = 2 := rfl
      by_cases hj : j < n * 2
      · rw [List.getElem?_take_of_lt hj, Array.getElem?_toList, putA_get _ _ _ _ (by show p * 2 + 2 ≤ _; omega)]
        by_cases h1 : p * 2 ≤ j ∧ j < p * 2 + [x0, x1].length
        · rw [if_pos h1]; have h2 : j < p * 2 + 2 := h1.2; rw [List.append_assoc, List.getElem?_append_right (by omega), hl, List.getElem?_append_left (by show _ < 2; omega)]
        · rw [if_neg h1, ← Array.getElem?_toList, ← List.getElem?_take_of_lt hj, ht]; have h1 : ¬ (p * 2 ≤ j ∧ j < p * 2 + 2) := h1
          by_cases h3 : j < p * 2
          · rw [List.append_assoc, List.getElem?_append_left (by omega), List.getElem?_take_of_lt h3]
          · rw [List.getElem?_append_right (by rw [List.length_append, hl]; show p * 2 + 2 ≤ j; omega), List.length_append, hl, List.getElem?_drop]; congr 1; show j = (p + 1) * 2 + (j - (p * 2 + 2)); omega
      · rw [List.getElem?_eq_none (by rw [List.length_take]; omega), List.getElem?_eq_none (by rw [List.length_append, List.length_append, hl, List.length_drop, hlen]; show p * 2 + 2 + _ ≤ j; omega)]
theorem set_cells (L : List RgV) (p : Nat) (r : RgV) (hp : p < L.length) : (L.set p r).flatMap RgV.cells = (L.flatMap RgV.cells).take (p * 2) ++ [.slice r.A r.n r.c, .slice r.B r.m r.d] ++ (L.flatMap RgV.cells).drop ((p + 1) * 2) := by
  rw [fm_take RgV.cells 2 (fun _ => rfl), fm_drop RgV.cells 2 (fun _ => rfl), List.set_eq_take_append_cons_drop, if_pos hp, List.flatMap_append, List.flatMap_cons, ← List.append_assoc]; rfl
end Go.Proofs.YtabkpbbjodfolaaGreatDoor
namespace Go.Proofs.YtabkpbbjodfolaaGreatDoor
set_option linter.unusedSimpArgs false
open Go.RowKit
set_option linter.unusedVariables false
theorem SQ.edits {w w' : World} {base : Nat} {o : SpO} {m : SqM} {V : SqV RgV} (h : SQ w base o m V) {EA : Option Addr} {ec : Nat} {E : List (EdV RgV)} {VE : List (Value × Value)}
    (hb : Blk w' m.q 96 (sqC o { m with EA := EA, ec := ec, VE := VE } { V with E := E })) (ho : w'.ownsRow base 112 4 (.slice EA E.length ec) E.length ((E.zip VE).flatMap edC))
    (hm : MvP (fun i => i = m.q ∨ blkOf m.EA i) w w') (hat : ∀ i, blkOf EA i → blkOf m.EA i ∨ w.heap.size ≤ i) (hv : VE.length = E.length)
    (hr : ∀ (i : Nat) (x : EdV RgV) (y : Value × Value), E[i]? = some x → VE[i]? = some y → EdF w m.imm m.q x.e y.1 y.2) :
    SQ w' base o { m with EA := EA, ec := ec, VE := VE } { V with E := E } ∧ Foot m { m with EA := EA, ec := ec, VE := VE } w w' := by
  have hni : ∀ i, m.imm i → ¬ (i = m.q ∨ blkOf m.EA i) := fun i hi e => h.ni i (e.elim .inl fun e => .inr (.inr e)) hi
  have hed : ∀ k, (Value.slice m.FA V.L.length m.fc).ownBlock = some k → ¬ (k = m.q ∨ blkOf m.EA k) := fun k hk e => by
    rcases e with e | e
    · exact own_ne h.fr hk h.blk (by decide) e
    · exact own_nee h.fr h.ed hk (blkOf_own.1 e) (by decide)
  have hown : ∀ i, SqM.own { m with EA := EA, ec := ec, VE := VE } i → m.own i ∨ w.heap.size ≤ i := fun i e => by
    rcases e with e | e | e
    · exact .inl (.inl e)
    · exact .inl (.inr (.inl e))
    · exact (hat i e).imp (fun e => .inr (.inr e)) id
  refine ⟨⟨hb, h.qb, hm.own h.fr hed, ho, fun i e hi => ?_, fun i e => Nat.lt_of_lt_of_le (h.lt i e) hm.size, h.sp.go hm hni, fun r hr' => (h.rg r hr').go hm hni, hv, fun i x y h1 h2 => (hr i x y h1 h2).go hm hni⟩,
    ⟨hm.mono fun i e => e.elim .inl fun e => .inr (.inr e), fun i e => ?_, hown, rfl⟩⟩
  · rcases hown i e with e | e
    · exact h.ni i e hi
    · have := h.lt i hi; omega
  · rcases e with e | e
    · exact (hown i e).imp .inl id
    · exact .inl (.inr e)
theorem SQ.pd {w w' : World} {base : Nat} {o : SpO} {m : SqM} {V : SqV RgV} (h : SQ w base o m V) {p d : Nat} (hb : Blk w' m.q 96 (sqC o m { V with p := p, d := d })) (hm : MvP (fun i => i = m.q) w w') :
    SQ w' base o m { V with p := p, d := d } ∧ Foot m m w w' := by
  have hni : ∀ i, m.imm i → ¬ (i = m.q) := fun i hi e => h.ni i (.inl e) hi
  exact ⟨⟨hb, h.qb, hm.own h.fr (fun k hk => own_ne h.fr hk h.blk (by decide)), hm.own h.ed (fun k hk => own_ne h.ed hk h.blk (by decide)), h.ni, fun i e => Nat.lt_of_lt_of_le (h.lt i e) hm.size, h.sp.go hm hni, fun r hr' => (h.rg r hr').go hm hni, h.vn, fun i x y h1 h2 => (h.ev i x y h1 h2).go hm hni⟩,
    ⟨hm.mono fun i e => .inl e, fun _ e => .inl e, fun _ e => .inl e, rfl⟩⟩
theorem EdF.one {w : World} {imm : Nat → Prop} {q : Nat} {e : Ed RgV} {u v : Value} (h : EdF w imm q e u v) : u.oneCell' = true ∧ v.oneCell' = true := by
  cases e with
  | ins a r => obtain ⟨bq, ba, br, i1, i2, i3, rfl, rfl, _⟩ := h; exact ⟨rfl, rfl⟩
  | rep a r o => obtain ⟨bq, ba, br, bo, i1, i2, i3, i4, rfl, rfl, _⟩ := h; exact ⟨rfl, rfl⟩
  | del a o => obtain ⟨bq, ba, bo, i1, i2, i3, rfl, rfl, _⟩ := h; exact ⟨rfl, rfl⟩
theorem SQ.ones {w : World} {base : Nat} {o : SpO} {m : SqM} {V : SqV RgV} (h : SQ w base o m V) : ∀ x ∈ V.E.zip m.VE, x.2.1.oneCell' = true ∧ x.2.2.oneCell' = true := fun x hx => by
  obtain ⟨i, hi⟩ := List.mem_iff_getElem?.1 hx; rw [List.getElem?_zip_eq_some] at hi; exact (h.ev i x.1 x.2 hi.1 hi.2).one
theorem own_some {w : World} {base size n c : Nat} {e : TypeId} {A : Option Addr} {xs : List Value} (h : w.ownsRow base e size (.slice A n c) n xs) : (A = none ∧ n = 0 ∧ c = 0) ∨ ∃ g, A = some ⟨g, 0, none⟩ ∧ n ≤ c ∧ c ≤ 9223372036854775807 := by
  rcases h.2 with ⟨h0, _⟩ | ⟨g', cap, cur, e1, _, _, hcc, hm, _⟩
  · injection h0 with a b c'
    exact .inl ⟨a, b, c'⟩
  · injection e1 with a _ c'
    subst c'; exact .inr ⟨g', a, hcc, by unfold maxLen at hm; exact hm⟩
end Go.Proofs.YtabkpbbjodfolaaGreatDoor
namespace Go.Proofs.YtabkpbbjodfolaaGreatDoor
set_option linter.unusedSimpArgs false
open Go.RowKit
set_option linter.unusedVariables false
theorem EdF.fn {w : World} {imm : Nat → Prop} {q : Nat} {e : Ed RgV} {u v : Value} (h : EdF w imm q e u v) : ∃ fu au fv av, u = .func (.func fu) #[] au ∧ v = .func (.func fv) #[] av ∧ (∀ (args : Array Value) (w : World), (callFunc fu args).run Tryz.prog w = .ok (.enter fu args) w) ∧ ∀ (args : Array Value) (w : World), (callFunc fv args).run Tryz.prog w = .ok (.enter fv args) w := by
  cases e with
  | ins a r => obtain ⟨bq, ba, br, i1, i2, i3, rfl, rfl, _⟩ := h; exact ⟨_, _, _, _, rfl, rfl, fun a w => by go_simp, fun a w => by go_simp⟩
  | rep a r o => obtain ⟨bq, ba, br, bo, i1, i2, i3, i4, rfl, rfl, _⟩ := h; exact ⟨_, _, _, _, rfl, rfl, fun a w => by go_simp, fun a w => by go_simp⟩
  | del a o => obtain ⟨bq, ba, bo, i1, i2, i3, rfl, rfl, _⟩ := h; exact ⟨_, _, _, _, rfl, rfl, fun a w => by go_simp, fun a w => by go_simp⟩
end Go.Proofs.YtabkpbbjodfolaaGreatDoor
namespace Go.Proofs.YtabkpbbjodfolaaGreatDoor
set_option linter.unusedSimpArgs false
open Go.RowKit
set_option linter.unusedVariables false
end Go.Proofs.YtabkpbbjodfolaaGreatDoor
namespace Go.Proofs.YtabkpbbjodfolaaGreatDoor
set_option linter.unusedSimpArgs false
open Go.RowKit
set_option linter.unusedVariables false
end Go.Proofs.YtabkpbbjodfolaaGreatDoor
namespace Go.Proofs.YtabkpbbjodfolaaGreatDoor
set_option linter.unusedSimpArgs false
open Go.RowKit
set_option linter.unusedVariables false
def SqM.wide (m : SqM) (a b : Nat) : SqM := { m with imm := fun i => m.imm i ∨ (a ≤ i ∧ i < b) }
def insE (o : SpO) (V : SqV RgV) (z : Int) (r : RgV) : Int := if z < 0 ∨ (V.L.length : Int) < z then 7 else if regE o r ≠ 0 then regE o r else if 500 ≤ V.L.length then 5 else 0
def InsP (base : Nat) (o : SpO) (m : SqM) (V : SqV RgV) (z : Int) (r : RgV) (w : World) (en : Ending) (w' : World) : Prop :=
  en = .returned (.int .i64 (insE o V z r)) ∧ ∃ m' r', (r'.l = r.l ∧ r'.k = r.k) ∧ SQ w' base o m' (if insE o V z r = 0 then V.does (.ins z.toNat r') (if z < (V.p : Int) then V.p + 1 else V.p) else V) ∧ Foot m m' w w'
theorem InsP.no {base : Nat} {o : SpO} {m : SqM} {V : SqV RgV} {z c : Int} {r : RgV} {w w' : World} (hv : insE o V z r = c) (hc : c ≠ 0) (hs : SQ w' base o m V) (hb : Below w.heap.size w w') : InsP base o m V z r w (.returned (.int .i64 c)) w' :=
  ⟨by rw [hv], m, r, ⟨rfl, rfl⟩, by rw [if_neg (by rw [hv]; exact hc)]; exact hs, Foot.of_below hb⟩
end Go.Proofs.YtabkpbbjodfolaaGreatDoor
