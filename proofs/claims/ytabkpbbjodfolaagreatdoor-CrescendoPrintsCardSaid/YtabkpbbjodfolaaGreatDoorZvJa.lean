/- A sequence: Delete. (Printed by gensqo.py.) -/
import Derived.Test.YtabkpbbjodfolaaGreatDoorZvIa
import Derived.Test.YtabkpbbjodfolaaGreatDoorZvZ
import Derived.Test.YtabkpbbjodfolaaGreatDoorZvBa
namespace Go.Proofs.YtabkpbbjodfolaaGreatDoor
set_option linter.unusedSimpArgs false
open Go.RowKit
set_option linter.unusedVariables false
def delE (V : SqV RgV) (z : Int) : Int := if z < 0 ∨ (V.L.length : Int) ≤ z then 7 else 0
def DelP (base : Nat) (o : SpO) (m : SqM) (V : SqV RgV) (z : Int) (w : World) (en : Ending) (w' : World) : Prop :=
  en = .returned (.int .i64 (delE V z)) ∧ ∃ m', (delE V z ≠ 0 → SQ w' base o m' V) ∧ (delE V z = 0 → ∃ x, V.L[z.toNat]? = some x ∧ SQ w' base o m' (V.does (.del z.toNat x) (if z < (V.p : Int) then V.p - 1 else V.p))) ∧ Foot m m' w w'
theorem DelP.no {base : Nat} {o : SpO} {m : SqM} {V : SqV RgV} {z : Int} {w w' : World} (hv : delE V z = 7) (hs : SQ w' base o m V) (hb : Below w.heap.size w w') : DelP base o m V z w (.returned (.int .i64 7)) w' :=
  ⟨by rw [hv], m, fun _ => hs, fun h => (by rw [hv] at h; cases h), Foot.of_below hb⟩
end Go.Proofs.YtabkpbbjodfolaaGreatDoor
namespace Go.Proofs.YtabkpbbjodfolaaGreatDoor
set_option linter.unusedSimpArgs false
open Go.RowKit
set_option linter.unusedVariables false
def repE (o : SpO) (V : SqV RgV) (z : Int) (r : RgV) : Int := if z < 0 ∨ (V.L.length : Int) ≤ z then 7 else regE o r
def RepP (base : Nat) (o : SpO) (m : SqM) (V : SqV RgV) (z : Int) (r : RgV) (w : World) (en : Ending) (w' : World) : Prop :=
  en = .returned (.int .i64 (repE o V z r)) ∧ ∃ m', (repE o V z r ≠ 0 → SQ w' base o m' V) ∧ (repE o V z r = 0 → ∃ x r', V.L[z.toNat]? = some x ∧ (r'.l = r.l ∧ r'.k = r.k) ∧ SQ w' base o m' (V.does (.rep z.toNat r' x) V.p)) ∧ Foot m m' w w'
theorem RepP.no {base : Nat} {o : SpO} {m : SqM} {V : SqV RgV} {z c : Int} {r : RgV} {w w' : World} (hv : repE o V z r = c) (hc : c ≠ 0) (hs : SQ w' base o m V) (hb : Below w.heap.size w w') : RepP base o m V z r w (.returned (.int .i64 c)) w' :=
  ⟨by rw [hv], m, fun _ => hs, fun h => absurd (hv.symm.trans h) hc, Foot.of_below hb⟩
end Go.Proofs.YtabkpbbjodfolaaGreatDoor
namespace Go.Proofs.YtabkpbbjodfolaaGreatDoor
set_option linter.unusedSimpArgs false
open Go.RowKit
set_option linter.unusedVariables false
end Go.Proofs.YtabkpbbjodfolaaGreatDoor
namespace Go.Proofs.YtabkpbbjodfolaaGreatDoor
set_option linter.unusedSimpArgs false
open Go.RowKit
set_option linter.unusedVariables false
end Go.Proofs.YtabkpbbjodfolaaGreatDoor
namespace Go.Proofs.YtabkpbbjodfolaaGreatDoor
set_option linter.unusedSimpArgs false
open Go.RowKit
set_option linter.unusedVariables false
theorem Foot.above {m m' : SqM} {w w1 w2 : World} {p : Nat → Prop} (h : Foot m m' w w1) (hm : MvP p w1 w2) (hp : ∀ i, p i → w.heap.size ≤ i) : Foot m m' w w2 := ⟨h.mv.trans2 hm (fun i hi e => by have := hp i e; omega), h.held, h.own, h.q⟩
end Go.Proofs.YtabkpbbjodfolaaGreatDoor
namespace Go.Proofs.YtabkpbbjodfolaaGreatDoor
set_option linter.unusedSimpArgs false
open Go.RowKit
set_option linter.unusedVariables false
structure StO where
  A : Option Addr
  c : Nat
  L : List RgV
  p : Nat
def StO.cells (s : StO) : List Value := [.slice s.A s.L.length s.c, .int .i64 (s.p : Int)]
def StO.st (s : StO) : StV (List Int × List Int) := ⟨s.L.map RgV.v, s.p⟩
def so0 : StO := ⟨none, 0, [], 0⟩
def StO.ok (w : World) (imm : Nat → Prop) (s : StO) : Prop := Dep w imm fun w' => TbM w' s.A s.L.length s.c s.L
theorem StO.ok.go {w w' : World} {imm p : Nat → Prop} {s : StO} (h : s.ok w imm) (hm : MvP p w w') (hp : ∀ i, imm i → ¬ p i) : s.ok w' imm := Dep.go h hm hp
theorem StO.ok.more {w : World} {imm imm' : Nat → Prop} {s : StO} (h : s.ok w imm) (hi : ∀ i, imm i → imm' i) : s.ok w imm' := Dep.more h hi
theorem rowG_own {w : World} {base n c : Nat} {t : TypeId} {A : Option Addr} {L : List RgV} (h : w.ownsRow base t 2 (.slice A n c) n (L.flatMap RgV.cells)) : RowG w A n 2 RgV.cells L ∧ n ≤ c ∧ c ≤ maxLen := by
  have hl : L.length = n := by
    have h1 := h.1
    have h2 : (L.flatMap RgV.cells).length = L.length * 2 := by
      clear h h1
      induction L with
      | nil => rfl
      | cons x L ih => rw [List.flatMap_cons, List.length_append, ih, List.length_cons]; show 2 + _ = _; omega
    omega
  refine ⟨⟨hl, Reads.of_own h, fun _ => rfl⟩, ?_⟩; rcases h.2 with ⟨h0, _⟩ | ⟨b, cap, cur, e1, _, _, h1, h2, _⟩
  · injection h0 with _ b c
    subst b c; exact ⟨Nat.le_refl _, by decide⟩
  · injection e1 with _ _ c
    subst c; exact ⟨h1, h2⟩
theorem Dep.tb {w : World} {base n c : Nat} {imm : Nat → Prop} {t : TypeId} {A : Option Addr} {L : List RgV} (h : w.ownsRow base t 2 (.slice A n c) n (L.flatMap RgV.cells)) (hi : ∀ i, blkOf A i → imm i) (hr : ∀ r ∈ L, Dep w imm fun w' => RgM w' r) :
    Dep w imm fun w' => TbM w' A n c L := fun w' hm => by
  obtain ⟨h1, h2⟩ := rowG_own (hm.own h (fun k hk e => e (hi k (blkOf_own.2 hk)))); exact ⟨h1, h2, fun r hr' => hr r hr' w' hm⟩
structure RqV where
  N : StO
  E : List (StO × StO)
  d : Nat
def RqV.rs (R : RqV) : RsV (List Int × List Int) := ⟨R.N.L.map RgV.v, R.N.p, R.E.map fun e => (e.1.st, e.2.st), R.d⟩
def edR (e : StO × StO) : List Value := e.1.cells ++ e.2.cells
def rqC (o : SpO) (m : SqM) (R : RqV) : Array Value :=
  #[.slice o.A1 o.n1 o.c1, .slice o.A2 o.n2 o.c2, .slice o.A3 o.n3 o.c3, .slice o.A4 o.n4 o.c4, .slice R.N.A R.N.L.length R.N.c, .int .i64 (R.N.p : Int), .slice m.EA R.E.length m.ec, .int .i64 (R.d : Int)]
structure ERow (w : World) (base : Nat) (A : Option Addr) (n c : Nat) (xs : List Value) : Prop where
  len : xs.length = n * 4
  cap : n ≤ c ∧ c ≤ maxLen
  one : ∀ u ∈ xs, u.oneCell' = true
  at_ : (A = none ∧ n = 0 ∧ c = 0) ∨ ∃ b off cs, A = some ⟨b, off, none⟩ ∧ base ≤ b ∧ Blk w b 114 cs ∧ off + n * 4 ≤ cs.size ∧ ∀ j u, xs[j]? = some u → cs[off + j]? = some u
theorem ERow.keep {w w' : World} {base n c : Nat} {A : Option Addr} {xs : List Value} {p : Nat → Prop} (h : ERow w base A n c xs) (hm : MvP p w w') (hp : ∀ i, blkOf A i → ¬ p i) : ERow w' base A n c xs :=
  ⟨h.len, h.cap, h.one, h.at_.imp id fun ⟨b, off, cs, e, hb, hB, hs, hc⟩ => ⟨b, off, cs, e, hb, hm.blk hB (hp b ⟨_, e, rfl⟩), hs, hc⟩⟩
theorem ERow.reads {w : World} {base n c : Nat} {A : Option Addr} {xs : List Value} (h : ERow w base A n c xs) : Reads w w.heap.size 4 A n xs := by
  refine ⟨h.len, fun hn => ?_⟩; rcases h.at_ with ⟨_, h0, _⟩ | ⟨b, off, cs, e, hb, hB, _, hc⟩
  · omega
  · refine ⟨_, e, hB.lt, fun j u hu => ?_⟩; rw [Addr.add_mid]; exact (hB.cell _).trans (hc j u hu)
theorem ERow.lt {w : World} {base n c : Nat} {A : Option Addr} {xs : List Value} (h : ERow w base A n c xs) {i : Nat} (hi : blkOf A i) : base ≤ i ∧ i < w.heap.size := by
  obtain ⟨ad, rfl, rfl⟩ := hi; rcases h.at_ with ⟨e, _⟩ | ⟨b, off, cs, e, hb, hB, _⟩
  · cases e
  · injection e with e
    subst e; exact ⟨hb, hB.lt⟩
theorem ERow.of_own {w : World} {base n c : Nat} {A : Option Addr} {xs : List Value} (h : w.ownsRow base 114 4 (.slice A n c) n xs) (h1 : ∀ u ∈ xs, u.oneCell' = true) : ERow w base A n c xs := by
  refine ⟨h.1, ?_, h1, ?_⟩
  · rcases h.2 with ⟨h0, _⟩ | ⟨b, cap, cur, e1, _, _, h1, h2, _⟩
    · injection h0 with _ b c
      subst b c; exact ⟨Nat.le_refl _, by decide⟩
    · injection e1 with _ _ c
      subst c; exact ⟨h1, h2⟩
  · rcases h.2 with ⟨h0, _⟩ | ⟨b, cap, cur, e1, hb, hh, h2, h3, hs, ht⟩
    · injection h0 with a b c
      exact .inl ⟨a, b, c⟩
    · injection e1 with a _ c
      subst a c; refine .inr ⟨b, 0, cur, rfl, hb, hh, by rw [Nat.zero_add, hs]; exact Nat.mul_le_mul_right _ h2, fun j u hu => ?_⟩; have hj := (List.getElem?_eq_some_iff.1 hu).1; have hl := h.1; rw [← ht, List.getElem?_take_of_lt (by omega), Array.getElem?_toList] at hu; rw [Nat.zero_add]; exact hu
structure RQ (w : World) (base : Nat) (o : SpO) (m : SqM) (R : RqV) : Prop where
  fa : m.FA = none
  blk : Blk w m.q 41 (rqC o m R)
  qb : base ≤ m.q
  ed : ERow w base m.EA R.E.length m.ec (R.E.flatMap edR)
  ni : ∀ i, m.own i → ¬ m.imm i
  lt : ∀ i, m.imm i → i < w.heap.size
  sp : Dep w m.imm fun w' => SpM w' o
  nw : R.N.ok w m.imm
  ev : ∀ e ∈ R.E, e.1.ok w m.imm ∧ e.2.ok w m.imm
theorem RQ.keep {w w' : World} {base : Nat} {o : SpO} {m : SqM} {R : RqV} (h : RQ w base o m R) {p : Nat → Prop} (hm : MvP p w w') (hp : ∀ i, m.held i → ¬ p i) : RQ w' base o m R := by
  have hi : ∀ i, m.imm i → ¬ p i := fun i e => hp i (.inr e)
  exact ⟨h.fa, hm.blk h.blk (hp _ (.inl (.inl rfl))), h.qb, h.ed.keep hm (fun i e => hp i (.inl (.inr (.inr e)))), h.ni, fun i e => Nat.lt_of_lt_of_le (h.lt i e) hm.size, h.sp.go hm hi, h.nw.go hm hi, fun e he => ⟨(h.ev e he).1.go hm hi, (h.ev e he).2.go hm hi⟩⟩
theorem RQ.below {w w' : World} {base : Nat} {o : SpO} {m : SqM} {R : RqV} (h : RQ w base o m R) (hb : Below w.heap.size w w') : RQ w' base o m R := h.keep (MvP.of_below hb) (fun _ _ e => e)
theorem RQ.cell {w : World} {base : Nat} {o : SpO} {m : SqM} {R : RqV} (h : RQ w base o m R) (j : Nat) {v : Value} (hv : (rqC o m R)[j]? = some v) : w.cell? ⟨m.q, j, none⟩ = some v := (h.blk.cell j).trans hv
theorem RQ.more {w : World} {base : Nat} {o : SpO} {m : SqM} {R : RqV} (h : RQ w base o m R) {imm' : Nat → Prop} (hi : ∀ i, m.imm i → imm' i) (hn : ∀ i, m.own i → ¬ imm' i) (hl : ∀ i, imm' i → i < w.heap.size) : RQ w base o { m with imm := imm' } R :=
  ⟨h.fa, h.blk, h.qb, h.ed, hn, hl, h.sp.more hi, h.nw.more hi, fun e he => ⟨(h.ev e he).1.more hi, (h.ev e he).2.more hi⟩⟩
def RqV.edit (R : RqV) (s : StO) : RqV := ⟨s, trim (R.E.take R.d ++ [(R.N, so0)]), (trim (R.E.take R.d ++ [(R.N, so0)])).length⟩
theorem RQ.edits {w w' : World} {base : Nat} {o : SpO} {m : SqM} {R : RqV} (h : RQ w base o m R) {EA : Option Addr} {ec : Nat} {s : StO} {E : List (StO × StO)} {d : Nat}
    (hb : Blk w' m.q 41 (rqC o { m with EA := EA, ec := ec } ⟨s, E, d⟩)) (he : ERow w' base EA E.length ec (E.flatMap edR)) (hm : MvP m.own w w') (hat : ∀ i, blkOf EA i → m.own i ∨ w.heap.size ≤ i)
    (hs : s.ok w m.imm) (hE : ∀ e ∈ E, e.1.ok w m.imm ∧ e.2.ok w m.imm) : RQ w' base o { m with EA := EA, ec := ec } ⟨s, E, d⟩ ∧ Foot m { m with EA := EA, ec := ec } w w' := by
  have hni : ∀ i, m.imm i → ¬ m.own i := fun i hi e => h.ni i e hi
  have hown : ∀ i, SqM.own { m with EA := EA, ec := ec } i → m.own i ∨ w.heap.size ≤ i := fun i e => by
    rcases e with e | e | e
    · exact .inl (.inl e)
    · exact .inl (.inr (.inl e))
    · exact hat i e
  refine ⟨⟨h.fa, hb, h.qb, he, fun i e hi => ?_, fun i e => Nat.lt_of_lt_of_le (h.lt i e) hm.size, h.sp.go hm hni, hs.go hm hni, fun e h2 => ⟨(hE e h2).1.go hm hni, (hE e h2).2.go hm hni⟩⟩, ⟨hm, fun i e => ?_, hown, rfl⟩⟩
  · rcases hown i e with e | e
    · exact h.ni i e hi
    · have := h.lt i hi; omega
  · rcases e with e | e
    · exact (hown i e).imp .inl id
    · exact .inl (.inr e)
def RqV.undo (R : RqV) : RqV := match R.E[R.d - 1]? with
  | none => R
  | some x => ⟨x.1, R.E.set (R.d - 1) (x.1, R.N), R.d - 1⟩
def RqV.redo (R : RqV) : RqV := match R.E[R.d]? with
  | none => R
  | some x => ⟨x.2, R.E, R.d + 1⟩
theorem RqV.undo_at {R : RqV} {x : StO × StO} (h : R.E[R.d - 1]? = some x) : R.undo = ⟨x.1, R.E.set (R.d - 1) (x.1, R.N), R.d - 1⟩ := by unfold RqV.undo; rw [h]
theorem RqV.redo_at {R : RqV} {x : StO × StO} (h : R.E[R.d]? = some x) : R.redo = ⟨x.2, R.E, R.d + 1⟩ := by unfold RqV.redo; rw [h]
end Go.Proofs.YtabkpbbjodfolaaGreatDoor
namespace Go.Proofs.YtabkpbbjodfolaaGreatDoor
set_option linter.unusedSimpArgs false
open Go.RowKit
set_option linter.unusedVariables false
theorem own_neb {w : World} {base base' size n size' n' k : Nat} {e e' : TypeId} {v v' : Value} {xs xs' : List Value} (h : w.ownsRow base e size v n xs) (h' : w.ownsRow base' e' size' v' n' xs') (hk : v.ownBlock = some k) (hk' : v'.ownBlock = some k) (ht : e ≠ e') : False := by
  rcases h'.2 with ⟨rfl, _⟩ | ⟨b, cap, cur, rfl, _, hh, _⟩
  · cases hk'
  · injection hk' with hk'
    have hk' : b = k := hk'; subst hk'; exact own_ne h hk (show Blk w b e' cur from hh) ht rfl
theorem wp_append_g {α : Type} (f : α → List Value) {o : Oper} {a : Act} {w : World} {K : Act → World → Prop} {Q : Exit → Act → World → Prop} (s x : Operand) (t e : TypeId)
    (ho : o.op = .call { callee := .builtin .append, args := #[s, x], argTypes := #[t, t] }) (size bytes : Nat) (z : Value) (hT : Tryz.prog.underlying t = some (.slice e))
    (hI : ∃ i, Tryz.prog.info? e = some i ∧ i.zero = some z ∧ i.size = size ∧ i.bytes = bytes) (hzs : z.cells.size = size) (hsz : 0 < size) (hby : bytes ≤ 1000) (h1 : ∀ x, ∀ u ∈ f x, u.oneCell' = true)
    (base : Nat) (A : Option Addr) (n c : Nat) (L : List α) (hs : a.eval s = .slice A n c) (hown : w.ownsRow base e size (.slice A n c) n (L.flatMap f))
    (B : Option Addr) (m d : Nat) (K' : List α) (hx : a.eval x = .slice B m d) (hr : Reads w w.heap.size size B m (K'.flatMap f)) (hnm : n + m ≤ 100000000) (hbase : base ≤ w.heap.size)
    (h : ∀ A' c' w', w'.ownsRow base e size (.slice A' (n + m) c') (n + m) ((L ++ K').flatMap f) → w.grownBy w' (Value.slice A n c).ownBlock → ((Value.slice A' (n + m) c').ownBlock = (Value.slice A n c).ownBlock ∨ (Value.slice A' (n + m) c').ownBlock = some w.heap.size) → K (a.put o.dst (.slice A' (n + m) c')) w') :
    o.wp Tryz.prog a w K Q := by
  obtain ⟨i, h2, h3, h4, h5⟩ := hI; have hb : (n + m) * bytes ≤ 140737488355328 := Nat.le_trans (Nat.mul_le_mul hnm hby) (by decide); refine wp_append_any w s x t ho base e i z size bytes hT h2 h3 h4 h5 hzs hsz _ n _ hs hown w.heap.size B m d (K'.flatMap f) hx hr (fun u hu => ?_) (by unfold maxLen; omega) hb hbase (fun v' w' h5 h6 h7 => ?_)
  · obtain ⟨y, _, hy⟩ := List.mem_flatMap.1 hu; exact h1 y u hy
  · rw [← List.flatMap_append] at h5; rcases h5.2 with ⟨rfl, h0⟩ | ⟨g, cap, cur, rfl, _⟩
    · have hn0 : n + m = 0 := h0; have e : Value.slice none 0 0 = Value.slice none (n + m) 0 := (by rw [hn0]); rw [e] at h5 h7 ⊢; exact h _ _ _ h5 h6 h7
    · exact h _ _ _ h5 h6 h7
theorem infoReg : ∃ i, Tryz.prog.info? 45 = some i ∧ i.zero = some (.agg #[.slice none 0 0, .slice none 0 0]) ∧ i.size = 2 ∧ i.bytes = 48 := by
  have h : (Tryz.prog.info? 45).map (fun i => (i.zero, i.size, i.bytes)) = some (some (.agg #[.slice none 0 0, .slice none 0 0]), 2, 48) := (by kernel_rfl); obtain ⟨i, hi, he⟩ := Option.map_eq_some_iff.1 h; injection he with e1 e2
  injection e2 with e2 e3
  exact ⟨i, hi, e1, e2, e3⟩
theorem rg_one (r : RgV) : ∀ u ∈ r.cells, u.oneCell' = true := fun u hu => by
  rcases List.mem_cons.1 hu with rfl | h
  · rfl
  · rw [List.mem_singleton.1 h]; rfl
def FR (w : World) (base : Nat) (A : Option Addr) (n c : Nat) (L : List RgV) : Prop := w.ownsRow base 45 2 (.slice A n c) n (L.flatMap RgV.cells)
theorem FR.row {w : World} {base n c : Nat} {A : Option Addr} {L : List RgV} (h : FR w base A n c L) : RowG w A n 2 RgV.cells L ∧ n ≤ c ∧ c ≤ maxLen := rowG_own h
theorem FR.nil (w : World) (base : Nat) : FR w base none 0 0 [] := World.ownsRow_nil _ _ _ _
theorem FR.below {w w' : World} {base n c : Nat} {A : Option Addr} {L : List RgV} (h : FR w base A n c L) (hb : Below w.heap.size w w') : FR w' base A n c L := (MvP.of_below hb).own h (fun _ _ e => e)
theorem RgO.kp {w w' : World} {b : Nat} {r : RgV} {p : Nat → Prop} (h : RgO w b r) (hm : MvP p w w') (hs : ∀ k, (Value.slice r.A r.n r.c).ownBlock = some k → ¬ p k) (hc : ∀ k, (Value.slice r.B r.m r.d).ownBlock = some k → ¬ p k) : RgO w' b r := ⟨hm.own h.s hs, hm.own h.c hc, h.ne⟩
theorem RgO.grown {w w' : World} {b base n c : Nat} {r : RgV} {A : Option Addr} {L : List RgV} (h : RgO w b r) (hF : FR w base A n c L) (hg : w.grownBy w' (Value.slice A n c).ownBlock) : RgO w' b r :=
  h.kp (MvP.of_grown hg) (fun k hk e => own_neb (e' := 45) h.s hF hk e (by decide)) (fun k hk e => own_neb (e' := 45) h.c hF hk e (by decide))
theorem RgO.lower {w : World} {b b' : Nat} {r : RgV} (h : RgO w b r) (hb : b' ≤ b) : RgO w b' r := ⟨h.s.mono hb, h.c.mono hb, h.ne⟩
theorem row_made (w : World) (r : RgV) (t : TypeId) : RowG (w.alloc (.cells #[.slice r.A r.n r.c, .slice r.B r.m r.d] t)) (some ⟨w.heap.size, 0, none⟩) 1 2 RgV.cells [r] :=
  RowG.of_blk (Blk.new w t _) (fun _ => rfl) rfl rfl
end Go.Proofs.YtabkpbbjodfolaaGreatDoor
namespace Go.Proofs.YtabkpbbjodfolaaGreatDoor
set_option linter.unusedSimpArgs false
open Go.RowKit
set_option linter.unusedVariables false
def BlkLt (mark : Nat) (r : RgV) : Prop := (∀ k, (Value.slice r.A r.n r.c).ownBlock = some k → k < mark) ∧ (∀ k, (Value.slice r.B r.m r.d).ownBlock = some k → k < mark)
structure PeS (W : World) (base mark : Nat) (A : Option Addr) (n c : Nat) (H L0 : List RgV) (now : RgV) : Prop where
  fr : FR W base A n c H
  old : ∀ r ∈ L0, RgO W base r ∧ BlkLt mark r
  now : RgO W mark now
  bm : base ≤ mark
  mw : mark ≤ W.heap.size
section
variable {W W' : World} {base mark n c : Nat} {A : Option Addr} {H L0 L : List RgV} {now : RgV}
theorem PeS.mvp {p : Nat → Prop} (h : PeS W base mark A n c H L0 now) (hm : MvP p W W') (hp : ∀ k, p k → ∃ t cs, Blk W k t cs ∧ 3 ≠ t ∧ 45 ≠ t) : PeS W' base mark A n c H L0 now := by
  have key : ∀ {b : Nat} {B : Option Addr} {m d : Nat} {l : List Int}, OI W b B m d l → ∀ k, (Value.slice B m d).ownBlock = some k → ¬ p k := fun ho k hk e => by
    obtain ⟨t, cs, hB, h1, _⟩ := hp k e; exact own_ne ho hk hB h1 rfl
  refine ⟨hm.own h.fr (fun k hk e => ?_), fun r hr => ⟨(h.old r hr).1.kp hm (key (h.old r hr).1.s) (key (h.old r hr).1.c), (h.old r hr).2⟩, h.now.kp hm (key h.now.s) (key h.now.c), h.bm, Nat.le_trans h.mw hm.size⟩; obtain ⟨t, cs, hB, _, h2⟩ := hp k e; exact own_ne h.fr hk hB h2 rfl
theorem PeS.below (h : PeS W base mark A n c H L0 now) (hb : Below W.heap.size W W') : PeS W' base mark A n c H L0 now := h.mvp (MvP.of_below hb) (fun _ e => e.elim)
theorem PeS.mv {g : Nat} {t : TypeId} {cs : Array Value} (h : PeS W base mark A n c H L0 now) (hm : Mv g W W') (hB : Blk W g t cs) (h1 : 3 ≠ t := by decide) (h2 : 45 ≠ t := by decide) : PeS W' base mark A n c H L0 now :=
  h.mvp (MvP.of_mv hm) (fun k e => ⟨t, cs, by rw [e]; exact hB, h1, h2⟩)
theorem PeS.row (h : PeS W base mark A n c H L0 now) {row : Option Nat} (hg : W.grownBy W' row) (hr : ∀ k, row = some k → mark ≤ k ∧ (Value.slice A n c).ownBlock ≠ some k) :
    FR W' base A n c H ∧ ∀ r ∈ L0, RgO W' base r ∧ BlkLt mark r := by
  have hm := MvP.of_grown hg; refine ⟨hm.own h.fr (fun k hk e => (hr k e).2 hk), fun r hr2 => ?_⟩; obtain ⟨k1, k2⟩ := h.old r hr2; exact ⟨k1.kp hm (fun k hk e => by have := k2.1 k hk; have := (hr k e).1; omega) (fun k hk e => by have := k2.2 k hk; have := (hr k e).1; omega), k2⟩
theorem PeS.app1 {A' : Option Addr} {n' c' : Nat} {X : List Int} (h : PeS W base mark A n c H L0 now) (ho : OI W' mark A' n' c' X) (hg : W.grownBy W' (Value.slice now.A now.n now.c).ownBlock)
    (hat : (Value.slice A' n' c').ownBlock = (Value.slice now.A now.n now.c).ownBlock ∨ (Value.slice A' n' c').ownBlock = some W.heap.size) : PeS W' base mark A n c H L0 ⟨A', n', c', X, now.B, now.m, now.d, now.k⟩ := by
  obtain ⟨k1, k2⟩ := h.row hg (fun k hk => ⟨(h.now.s.lt k hk).1, fun e => own_neb h.now.s h.fr hk e (by decide)⟩); exact ⟨k1, k2, h.now.app1 ho hg hat, h.bm, Nat.le_trans h.mw (MvP.of_grown hg).size⟩
theorem PeS.app2 {A' : Option Addr} {n' c' : Nat} {X : List Int} (h : PeS W base mark A n c H L0 now) (ho : OI W' mark A' n' c' X) (hg : W.grownBy W' (Value.slice now.B now.m now.d).ownBlock)
    (hat : (Value.slice A' n' c').ownBlock = (Value.slice now.B now.m now.d).ownBlock ∨ (Value.slice A' n' c').ownBlock = some W.heap.size) : PeS W' base mark A n c H L0 ⟨now.A, now.n, now.c, now.l, A', n', c', X⟩ := by
  obtain ⟨k1, k2⟩ := h.row hg (fun k hk => ⟨(h.now.c.lt k hk).1, fun e => own_neb h.now.c h.fr hk e (by decide)⟩); exact ⟨k1, k2, h.now.app2 ho hg hat, h.bm, Nat.le_trans h.mw (MvP.of_grown hg).size⟩
def FrD (W : World) (base : Nat) (A : Option Addr) (n c : Nat) (L : List RgV) : Prop :=
  base ≤ W.heap.size ∧ ((L = [] ∧ FR W base A n c []) ∨ ∃ mark L0 now, L = L0 ++ [now] ∧ PeS W base mark A n c L L0 now)
theorem FrD.nil (W : World) (base : Nat) (hb : base ≤ W.heap.size) : FrD W base none 0 0 [] := ⟨hb, .inl ⟨rfl, FR.nil W base⟩⟩
theorem FrD.fr (h : FrD W base A n c L) : FR W base A n c L := by
  rcases h.2 with ⟨e, k⟩ | ⟨mark, L0, now, e, k⟩
  · rw [e]; exact k
  · exact k.fr
theorem FrD.all (h : FrD W base A n c L) : ∀ r ∈ L, RgO W base r := by
  rcases h.2 with ⟨e, k⟩ | ⟨mark, L0, now, e, k⟩
  · rw [e]; simp
  · rw [e]; intro r hr; rcases List.mem_append.1 hr with hr | hr
    · exact (k.old r hr).1
    · rw [List.mem_singleton.1 hr]; exact k.now.lower k.bm
theorem FrD.mvp {p : Nat → Prop} (h : FrD W base A n c L) (hm : MvP p W W') (hp : ∀ k, p k → ∃ t cs, Blk W k t cs ∧ 3 ≠ t ∧ 45 ≠ t) : FrD W' base A n c L := by
  refine ⟨Nat.le_trans h.1 hm.size, ?_⟩; rcases h.2 with ⟨el, h'⟩ | ⟨mark, L0, now, el, h'⟩
  · refine .inl ⟨el, hm.own h' (fun k hk e => ?_)⟩; obtain ⟨t, cs, hB, _, h2⟩ := hp k e; exact own_ne h' hk hB h2 rfl
  · exact .inr ⟨mark, L0, now, el, h'.mvp hm hp⟩
theorem FrD.below (h : FrD W base A n c L) (hb : Below W.heap.size W W') : FrD W' base A n c L := h.mvp (MvP.of_below hb) (fun _ e => e.elim)
theorem FrD.mv {g : Nat} {t : TypeId} {cs : Array Value} (h : FrD W base A n c L) (hm : Mv g W W') (hB : Blk W g t cs) (h1 : 3 ≠ t := by decide) (h2 : 45 ≠ t := by decide) : FrD W' base A n c L :=
  h.mvp (MvP.of_mv hm) (fun k e => ⟨t, cs, by rw [e]; exact hB, h1, h2⟩)
theorem FrD.len (h : FrD W base A n c L) : L.length = n := by
  have h1 := h.fr.1
  have h2 : ∀ l : List RgV, (l.flatMap RgV.cells).length = l.length * 2 := fun l => by
    induction l with
    | nil => rfl
    | cons r l ih => rw [List.flatMap_cons, List.length_append, ih, List.length_cons]; show 2 + _ = _; omega
  rw [h2] at h1; omega
theorem FrD.start (h : FrD W base A n c L) : PeS W base W.heap.size A n c L L rg0 :=
  ⟨h.fr, fun r hr => ⟨h.all r hr, fun k hk => ((h.all r hr).s.lt k hk).2, fun k hk => ((h.all r hr).c.lt k hk).2⟩, ⟨OI.nil _ _, OI.nil _ _, fun g e => by cases e⟩, h.1, Nat.le_refl _⟩
theorem PeS.frame {A' : Option Addr} {c' : Nat} (h : PeS W base mark A n c L L now) (hF : FR W' base A' (n + 1) c' (L ++ [now])) (hg : W.grownBy W' (Value.slice A n c).ownBlock) : FrD W' base A' (n + 1) c' (L ++ [now]) :=
  ⟨Nat.le_trans (Nat.le_trans h.bm h.mw) (MvP.of_grown hg).size, .inr ⟨mark, L, now, rfl, hF, fun r hr => ⟨(h.old r hr).1.grown h.fr hg, (h.old r hr).2⟩, h.now.grown h.fr hg, h.bm, Nat.le_trans h.mw (MvP.of_grown hg).size⟩⟩
theorem PeS.more {g : Nat} (h : PeS W base mark A n c H L0 now) (hA : (Value.slice A n c).ownBlock = some g) (hF : FR W' base A n c (L0 ++ [now])) (hm : Mv g W W') : FrD W' base A n c (L0 ++ [now]) := by
  have key : ∀ {b : Nat} {B : Option Addr} {m d : Nat} {l : List Int}, OI W b B m d l → ∀ k, (Value.slice B m d).ownBlock = some k → ¬ (k = g) := fun ho k hk e => by
    subst e; exact own_neb ho h.fr hk hA (by decide)
  exact ⟨Nat.le_trans (Nat.le_trans h.bm h.mw) hm.size, .inr ⟨mark, L0, now, rfl, hF, fun r hr => ⟨(h.old r hr).1.kp (MvP.of_mv hm) (key (h.old r hr).1.s) (key (h.old r hr).1.c), (h.old r hr).2⟩, h.now.kp (MvP.of_mv hm) (key h.now.s) (key h.now.c), h.bm, Nat.le_trans h.mw hm.size⟩⟩
theorem FrD.last (h : FrD W base A n c L) (hL : L ≠ []) : ∃ mark L0 now, L = L0 ++ [now] ∧ PeS W base mark A n c L L0 now := by
  rcases h.2 with ⟨e, _⟩ | k
  · exact absurd e hL
  · exact k
theorem FrD.tb (h : FrD W base A n c L) : TbM W A n c L := ⟨h.fr.row.1, h.fr.row.2, fun r hr => (h.all r hr).rg⟩
end
end Go.Proofs.YtabkpbbjodfolaaGreatDoor
namespace Go.Proofs.YtabkpbbjodfolaaGreatDoor
set_option linter.unusedSimpArgs false
set_option linter.unusedVariables false
end Go.Proofs.YtabkpbbjodfolaaGreatDoor
