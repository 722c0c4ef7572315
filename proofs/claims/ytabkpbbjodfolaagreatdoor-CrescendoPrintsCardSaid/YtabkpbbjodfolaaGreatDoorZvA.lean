/- Base words for every text of this seat: memory predicates (a slice that reads as a list, a block known whole, append onto an own row), small facts. Parts began as the guide's "extra-words" lemmas that it bids to copy. -/
import Derived.Test.YtabkpbbjodfolaaGreatDoorRows
import Derived.WalkKit
import Derived.WalkSpells
import Derived.WalkLawsBesides
import Derived.Deep.QuietTactic
import Derived.Deep.AppendLies
import Derived.Deep.Draws
import Derived.Deep.OwnRows
import Derived.Deep.LoopGhost
import Derived.Deep.Light
import Derived.Deep.Cut
import Derived.Deep.CutRange
import Derived.BigQuiet
import Derived.BigRegion
import Derived.RegionTactic
import Derived.Maps.AppendAt
import Derived.OwnWalk
import Derived.Lib.Hide
import Derived.Handy
import Derived.Test.YtabkpbbjodfolaaGreatDoorCards
import Derived.Test.YtabkpbbjodfolaaGreatDoorTie
import Derived.ProofKit
import Derived.OpenShut
import Derived.Deep.DeepHandedRow
import Derived.Lib.LaidTab
import Derived.Stop.LaidErr
import Derived.ChangeSame
import Derived.ChangeSlices
import Derived.Carry
import Derived.Lay
import Derived.ChangeMaps5
import Derived.Deep.RegionLawGrows
import Derived.Deep.RegionHeld3
namespace Go.Proofs.YtabkpbbjodfolaaGreatDoor
set_option linter.unusedSimpArgs false
set_option linter.unusedVariables false
open Go.RowKit
theorem block_of_add (a : Addr) (n : Nat) : (a.add n).block = a.block := by unfold Addr.add; split <;> rfl
theorem add_of_add (a : Addr) (i j : Nat) : (a.add i).add j = a.add (i + j) := by
  unfold Addr.add
  by_cases hi : i = 0 <;> by_cases hj : j = 0 <;> simp [hi, hj, Nat.add_assoc]
def Reads (w : World) (B size : Nat) (A : Option Addr) (n : Nat) (xs : List Value) : Prop :=
  xs.length = n * size ∧ (0 < n → ∃ ad, A = some ad ∧ ad.block < B ∧ ∀ j u, xs[j]? = some u → w.cell? (ad.add j) = some u)
section
variable {w w' : World} {B B' size n : Nat} {A : Option Addr} {xs : List Value}
theorem Reads.none_ : Reads w B size A 0 [] := ⟨by simp, fun h => absurd h (by omega)⟩
theorem Reads.at_ {k : Nat} (h : Reads w B 1 A n xs) (hk : k < n) : ∃ ad u, A = some ad ∧ ad.block < B ∧ xs[k]? = some u ∧ w.cell? (ad.add k) = some u := by
  obtain ⟨ad, e, hb, hc⟩ := h.2 (by omega); have hl : k < xs.length := (by have := h.1; omega); exact ⟨ad, xs[k], e, hb, List.getElem?_eq_getElem hl, hc k _ (List.getElem?_eq_getElem hl)⟩
theorem Reads.keep (h : Reads w B size A n xs) (hk : ∀ p : Addr, p.block < B → w'.cell? p = w.cell? p) : Reads w' B size A n xs :=
  ⟨h.1, fun hn => by
    obtain ⟨ad, e, hb, hc⟩ := h.2 hn
    exact ⟨ad, e, hb, fun j u hu => (hk _ (by rw [block_of_add]; exact hb)).trans (hc j u hu)⟩⟩
theorem Reads.more (h : Reads w B size A n xs) (hB : B ≤ B') : Reads w B' size A n xs :=
  ⟨h.1, fun hn => by
    obtain ⟨ad, e, hb, hc⟩ := h.2 hn
    exact ⟨ad, e, by omega, hc⟩⟩
theorem Reads.below (h : Reads w B size A n xs) (hb : Below B w w') : Reads w' B size A n xs := h.keep fun _ hp => hb.cell hp
theorem Reads.drew (h : Reads w B size A n xs) : Reads w.drew B size A n xs := h
theorem Reads.drewN (h : Reads w B size A n xs) (k : Nat) : Reads (w.drewN k) B size A n xs := h
theorem Reads.alloc (h : Reads w B size A n xs) (hB : B ≤ w.heap.size) (o : Obj) : Reads (w.alloc o) B size A n xs := h.keep fun p hp => World.cell?_alloc_lt w o p (by omega)
theorem Reads.setCell (h : Reads w B size A n xs) {p : Addr} (hB : B ≤ p.block) (u : Value) : Reads (w.setCell p u) B size A n xs :=
  h.keep fun q hq => World.cell?_setCell_other w p q u (fun e => by subst e; omega)
theorem Reads.grown (h : Reads w B size A n xs) {row : Option Nat} (hg : w.grownBy w' row) (hB : B ≤ w.heap.size) (hr : ∀ g, row = some g → B ≤ g) : Reads w' B size A n xs :=
  h.keep fun p hp => World.cell?_of_block (hg.block p.block (by omega) (fun e => by have := hr _ e.symm; omega))
theorem Reads.cut (h : Reads w B size A n xs) {k cap : Nat} (hk : k ≤ n) (hc : n ≤ cap) :
    Reads w B size (if cap = k then A else A.map (·.add (k * size))) (n - k) (xs.drop (k * size)) := by
  refine ⟨by rw [List.length_drop, h.1, Nat.sub_mul], fun hn => ?_⟩; obtain ⟨ad, rfl, hb, hcell⟩ := h.2 (by omega); rw [if_neg (by omega)]; refine ⟨ad.add (k * size), rfl, by rw [block_of_add]; exact hb, fun j u hu => ?_⟩; rw [add_of_add]; exact hcell _ u (by rw [← hu, List.getElem?_drop])
theorem Reads.of_own {base : Nat} {e : TypeId} {c : Nat} (h : w.ownsRow base e size (.slice A n c) n xs) : Reads w w.heap.size size A n xs := by
  refine ⟨h.1, fun hn => ?_⟩; obtain ⟨g, cap, hv, _, hlt⟩ := h.form hn; have hA : A = some ⟨g, 0, none⟩ := (by injection hv); subst hA; exact ⟨_, rfl, hlt, h.cells (g := g) rfl⟩
end
def Blk (w : World) (g : Nat) (t : TypeId) (cs : Array Value) : Prop := w.heap[g]? = some (.cells cs t (0, 0))
section
variable {w w' : World} {g : Nat} {t : TypeId} {cs : Array Value}
theorem Blk.lt (h : Blk w g t cs) : g < w.heap.size := by
  rcases Nat.lt_or_ge g w.heap.size with hlt | hge
  · exact hlt
  · unfold Blk at h; rw [Array.getElem?_eq_none hge] at h; cases h
theorem Blk.cell (h : Blk w g t cs) (i : Nat) : w.cell? ⟨g, i, none⟩ = cs[i]? := cell_of_row w g i cs t (0, 0) h
theorem Blk.frozen (h : Blk w g t cs) (i : Nat) : w.frozen? ⟨g, i, none⟩ = false := by
  unfold Blk at h; simp [World.frozen?, h]
theorem Blk.new (w : World) (t : TypeId) (cs : Array Value) : Blk (w.alloc (.cells cs t)) w.heap.size t cs := heap_alloc_new w _
theorem Blk.drew (h : Blk w g t cs) : Blk w.drew g t cs := h
theorem Blk.drewN (h : Blk w g t cs) (n : Nat) : Blk (w.drewN n) g t cs := h
theorem Blk.alloc (h : Blk w g t cs) (o : Obj) : Blk (w.alloc o) g t cs := (Below.heap_alloc w o g h.lt).trans h
theorem Blk.set_ (h : Blk w g t cs) (i : Nat) (u : Value) : Blk (w.setCell ⟨g, i, none⟩ u) g t (cs.setIfInBounds i u) := by
  unfold Blk at h ⊢; simp [World.setCell, Array.getElem?_modify, h]
theorem Blk.far (h : Blk w g t cs) {p : Addr} (hp : g ≠ p.block) (u : Value) : Blk (w.setCell p u) g t cs := (Below.heap_setCell w p u g hp).trans h
theorem Blk.below {B : Nat} (h : Blk w g t cs) (hb : Below B w w') (hg : g < B) : Blk w' g t cs := (hb.block g hg).trans h
theorem Blk.grown {row : Option Nat} (h : Blk w g t cs) (hb : w.grownBy w' row) (hg : some g ≠ row) : Blk w' g t cs := (hb.block g h.lt hg).trans h
theorem Blk.ne_ {g' : Nat} {t' : TypeId} {cs' : Array Value} (h : Blk w g t cs) (h' : Blk w g' t' cs') (hne : t ≠ t') : g ≠ g' := by
  rintro rfl; unfold Blk at h h'; rw [h] at h'; injection h' with h'
  injection h' with _ ht
  exact hne ht
theorem own_blk_ne {base : Nat} {e : TypeId} {size n : Nat} {v : Value} {xs : List Value} (h : w.ownsRow base e size v n xs) (hg : Blk w g t cs) (hne : e ≠ t) : v.ownBlock ≠ some g := by
  rcases h.2 with ⟨rfl, _⟩ | ⟨g', cap, cur, rfl, _, hh, _⟩
  · simp [Value.ownBlock]
  · intro he; have : g' = g := (by simpa [Value.ownBlock] using he); subst this; exact Blk.ne_ (t := e) hh hg hne rfl
end
section
variable {P : Program} (w : World)
theorem run_append_of_nil (base : Nat) (t ty e : TypeId) (i : TypeInfo) (size : Nat) (ht : P.underlying t = some (.slice e)) (hi : P.info? e = some i)
    (v : Value) (n : Nat) (xs : List Value) (hown : w.ownsRow base e size v n xs) (c : Nat) : (Builtin.append_ #[t, t] ty #[v, .slice none 0 c]).run P w = .ok v w := by
  rcases hown.2 with ⟨rfl, rfl⟩ | ⟨g, cap, cur, rfl, _, _, hnc, _⟩
  · simp [Builtin.append_, run_underlying ht, sizeOf, typeInfo, hi, Builtin.lenOf, Builtin.firstCells]
  · simp [Builtin.append_, run_underlying ht, sizeOf, typeInfo, hi, Builtin.lenOf, Builtin.firstCells, hnc, storeCells]
theorem run_append_any (base : Nat) (t ty e : TypeId) (i : TypeInfo) (z : Value) (size bytes : Nat) (ht : P.underlying t = some (.slice e)) (hi : P.info? e = some i) (hz : i.zero = some z)
    (hsize : i.size = size) (hby : i.bytes = bytes) (hzs : z.cells.size = size) (hsz : 0 < size)
    (v : Value) (n : Nat) (xs : List Value) (hown : w.ownsRow base e size v n xs)
    (B : Nat) (A : Option Addr) (m c : Nat) (news : List Value) (hr : Reads w B size A m news) (h1 : ∀ u ∈ news, u.oneCell' = true)
    (h63 : n + m ≤ maxLen) (hbytes : (n + m) * bytes ≤ 140737488355328) (hbase : base ≤ w.heap.size) :
    ∃ v' w', (Builtin.append_ #[t, t] ty #[v, .slice A m c]).run P w = .ok v' w' ∧ w'.ownsRow base e size v' (n + m) (xs ++ news) ∧ w.grownBy w' v.ownBlock ∧
      (v'.ownBlock = v.ownBlock ∨ v'.ownBlock = some w.heap.size) := by
  rcases A with _ | ad
  · have hm : m = 0 := by
      rcases Nat.eq_zero_or_pos m with h0 | h0
      · exact h0
      · obtain ⟨ad, h, _⟩ := hr.2 h0
        cases h
    subst hm; have hn : news = [] := List.eq_nil_of_length_eq_zero (by simpa using hr.1); subst hn; exact ⟨v, w, run_append_of_nil w base t ty e i size ht hi v n xs hown c, by simpa using hown, World.grownBy.refl w _, .inl rfl⟩
  · have hcells : ∀ j u, news[j]? = some u → w.cell? (ad.add j) = some u := by
      intro j u hu; rcases Nat.eq_zero_or_pos m with h0 | h0
      · subst h0; have hn : news = [] := List.eq_nil_of_length_eq_zero (by simpa using hr.1); subst hn; simp at hu
      · obtain ⟨ad', h, _, hc⟩ := hr.2 h0; injection h with h
        subst h; exact hc j u hu
    obtain ⟨v', w', hrun, h2, h3, _, h5⟩ := run_append_own_at (P := P) w base t ty e i z size bytes ht hi hz hsize hby hzs hsz v n xs hown ad m c news hr.1 hcells h1 h63 hbytes hbase; exact ⟨v', w', hrun, h2, h3, h5⟩
theorem wp_append_any {o : Oper} {a : Act} {K : Act → World → Prop} {Q : Exit → Act → World → Prop} (s x : Operand) (t : TypeId)
    (ho : o.op = .call { callee := .builtin .append, args := #[s, x], argTypes := #[t, t] })
    (base : Nat) (e : TypeId) (i : TypeInfo) (z : Value) (size bytes : Nat) (ht : P.underlying t = some (.slice e)) (hi : P.info? e = some i) (hz : i.zero = some z)
    (hsize : i.size = size) (hby : i.bytes = bytes) (hzs : z.cells.size = size) (hsz : 0 < size)
    (v : Value) (n : Nat) (xs : List Value) (hs : a.eval s = v) (hown : w.ownsRow base e size v n xs)
    (B : Nat) (A : Option Addr) (m c : Nat) (news : List Value) (hx : a.eval x = .slice A m c) (hr : Reads w B size A m news) (h1 : ∀ u ∈ news, u.oneCell' = true)
    (h63 : n + m ≤ maxLen) (hbytes : (n + m) * bytes ≤ 140737488355328) (hbase : base ≤ w.heap.size)
    (h : ∀ v' w', w'.ownsRow base e size v' (n + m) (xs ++ news) → w.grownBy w' v.ownBlock → (v'.ownBlock = v.ownBlock ∨ v'.ownBlock = some w.heap.size) → K (a.put o.dst v') w') : o.wp P a w K Q := by
  obtain ⟨v', w', hrun, h2, h3, h4⟩ := run_append_any (P := P) w base t o.type e i z size bytes ht hi hz hsize hby hzs hsz v n xs hown B A m c news hr h1 h63 hbytes hbase; unfold Oper.wp execOp; simp only [ho, resolve, invoke, builtin, Sem.run_bind, Sem.run_pure, Result.andThen_ok, List.map_toArray, List.map_cons, List.map_nil, hs, hx, hrun]; exact h v' w' h2 h3 h4
theorem wpList_append_any {ops : Array Oper} {rest : List Oper} {o : Oper} {a : Act} {Q : Exit → Act → World → Prop} (hgd : o.guard = none) (s x : Operand) (t : TypeId)
    (ho : o.op = .call { callee := .builtin .append, args := #[s, x], argTypes := #[t, t] })
    (base : Nat) (e : TypeId) (i : TypeInfo) (z : Value) (size bytes : Nat) (ht : P.underlying t = some (.slice e)) (hi : P.info? e = some i) (hz : i.zero = some z)
    (hsize : i.size = size) (hby : i.bytes = bytes) (hzs : z.cells.size = size) (hsz : 0 < size)
    (v : Value) (n : Nat) (xs : List Value) (hs : a.eval s = v) (hown : w.ownsRow base e size v n xs)
    (B : Nat) (A : Option Addr) (m c : Nat) (news : List Value) (hx : a.eval x = .slice A m c) (hr : Reads w B size A m news) (h1 : ∀ u ∈ news, u.oneCell' = true)
    (h63 : n + m ≤ maxLen) (hbytes : (n + m) * bytes ≤ 140737488355328) (hbase : base ≤ w.heap.size)
    (h : ∀ v' w', w'.ownsRow base e size v' (n + m) (xs ++ news) → w.grownBy w' v.ownBlock → (v'.ownBlock = v.ownBlock ∨ v'.ownBlock = some w.heap.size) → wpList P ops Q rest (a.put o.dst v') w') : wpList P ops Q (o :: rest) a w :=
  wpList_plain hgd fun _ hK => wp_append_any w s x t ho base e i z size bytes ht hi hz hsize hby hzs hsz v n xs hs hown B A m c news hx hr h1 h63 hbytes hbase fun v' w' h2 h3 h4 => hK _ _ (h v' w' h2 h3 h4)
end
theorem ret_int {k : IntKind} {a b : Int} (h : a = b) : Ending.returned (.int k a) = .returned (.int k b) := by rw [h]
structure Sl (p : Prop) : Prop where
  out : p
theorem below_drewN {B : Nat} {a w : World} (h : Below B a w) (n : Nat) : Below B a (w.drewN n) := ⟨h.os, h.tape, h.output, h.size, h.block⟩
end Go.Proofs.YtabkpbbjodfolaaGreatDoor
namespace Go.Proofs.YtabkpbbjodfolaaGreatDoor
set_option linter.unusedSimpArgs false
open Go.ChangeShapes Go.WideShapes Go.ChangeAt Go.RowKit
set_option linter.unusedVariables false
section
variable {H : Type} {enc : TypeId × Value → H} {P : Program}
theorem post_of_below {f : Func} {s : ChangeSpec} {apart fresh handsOn again : Bool} {W W' : World} {args : Array Value} {v : Value} {ds gs : List (DataW H)} {before pa pv : List MemPlace}
    (hW : DataW.Whole enc P f.params.toList s.vars apart W args.toList ds gs before)
    (hres : ∀ (b : Nat) (sp : Nat → Bool) (hd : Bool), DataW.TrodAll enc P W' b sp hd f.resultTypes.toList (v.resultList f.resultTypes.size) (s.fn H (ds ++ gs)).results [])
    (hargs : ∀ sp : Nat → Bool, (∀ p ∈ before, sp p.block = true) → DataW.TrodAll enc P W' 0 sp true f.params.toList args.toList (s.fn H (ds ++ gs)).args pa)
    (hvars : ∀ sp : Nat → Bool, (∀ p ∈ before, sp p.block = true) → DataW.TrodVars enc P W' sp s.vars (s.fn H (ds ++ gs)).vars pv)
    (hps : before = pa ++ pv) (hb : Below W.heap.size W W')
    (hok : ∀ (j : Nat) (t : TypeId) (r : Value), f.resultTypes[j]? = some t → (v.resultList f.resultTypes.size)[j]? = some r → Value.okWide P W' .any 0 t r) :
    s.post enc P f apart fresh handsOn again W args v W' := by
  have hlt : ∀ p ∈ before, p.block < W.heap.size := fun p hp => hW.lt p hp
  have hold : ∀ p ∈ before, (fun b => decide (b < W.heap.size)) p.block = true := fun p hp => by simpa using hlt p hp
  refine ⟨ds, gs, before, [], pa, pv, hW, hres _ _ _, hargs _ hold, hvars _ hold, World.keptBut_mono (fun p hp => ⟨hp, ?_⟩) (hb.frame (· ∈ before)), fun _ => ?_⟩
  · rw [hps, List.mem_append] at hp; exact Or.inr hp
  · obtain ⟨_, _, _, _, _, hz, hn⟩ := hW; refine ⟨hok, _, _, ([] ++ pa) ++ pv, ⟨[] ++ pa, pv, trodAll_append (hargs _ (fun _ _ => rfl)) (hres _ _ _), hvars _ (fun _ _ => rfl), rfl, ?_, ?_⟩, ?_⟩
    · intro b off hp; have hin : MemPlace.cell b off ∈ before := (by rw [hps]; simpa using hp); rw [hb.frozen (hlt _ hin)]; exact hz b off hin
    · intro ha; have := hn ha; rw [hps] at this; simpa using this
    · intro p hp _; rw [hps]; simpa using hp
end
theorem ownK : ownKnob Tryz.prog.godebug = none := by kernel_rfl
theorem laidO : laidOutB Tryz.prog = true := by kernel_rfl
theorem wf_i64 {z : Int} (h : (Lit.int .i64 z).wf = true) : -9223372036854775808 ≤ z ∧ z < 9223372036854775808 := by
  simp [Lit.wf, IntKind.min, IntKind.max, IntKind.signed, IntKind.bits] at h; omega
theorem stays {H : Type} {enc : TypeId × Value → H} {t : TypeId} (hr : Tryz.prog.readableRec t = true) (hrow : t < Tryz.prog.types.size) {W W' : World} {v : Value} {d : DataW H} {ps : List MemPlace} (h : DataW.Trod enc Tryz.prog W 0 (fun _ => true) true t v d ps) (hb : Below W.heap.size W W') (hlt : ∀ x ∈ ps, x.block < W.heap.size) (sp : Nat → Bool) (hsp : ∀ x ∈ ps, sp x.block = true) :
    DataW.Trod enc Tryz.prog W' 0 sp true t v d ps := WideElems.Trod_stays laidO hr hrow h (fun x hx => hb.same (hlt x hx)) (fun x hx => hsp x hx)
end Go.Proofs.YtabkpbbjodfolaaGreatDoor
namespace Go.Proofs.YtabkpbbjodfolaaGreatDoor
set_option linter.unusedSimpArgs false
open Go.RowKit
set_option linter.unusedVariables false
end Go.Proofs.YtabkpbbjodfolaaGreatDoor
namespace Go.Proofs.YtabkpbbjodfolaaGreatDoor
set_option linter.unusedSimpArgs false
open Go.RowKit
set_option linter.unusedVariables false
def TR (w : World) (A : Option Addr) (n : Nat) (l : List (Nat × Int)) : Prop :=
  l.length = n ∧ Reads w w.heap.size 2 A n (l.flatMap fun x => [.int .i64 (x.1 : Int), .int .i64 x.2])
theorem TR.below {w w' : World} {A : Option Addr} {n : Nat} {l : List (Nat × Int)} (h : TR w A n l) (hb : Below w.heap.size w w') : TR w' A n l :=
  ⟨h.1, (h.2.below hb).more hb.size⟩
theorem flat2 (l : List (Nat × Int)) : ∀ i x, l[i]? = some x → (l.flatMap fun x => [Value.int .i64 (x.1 : Int), Value.int .i64 x.2])[i * 2]? = some (.int .i64 (x.1 : Int)) ∧ (l.flatMap fun x => [Value.int .i64 (x.1 : Int), Value.int .i64 x.2])[i * 2 + 1]? = some (.int .i64 x.2) := by
  induction l with
  | nil => intro i x h; cases h
  | cons y l ih =>
    intro i x h
    cases i with
    | zero => cases h; simp
    | succ i =>
      have h1 := ih i x (by simpa using h); have e1 : (i + 1) * 2 = i * 2 + 1 + 1 := (by omega); have e2 : (i + 1) * 2 + 1 = i * 2 + 1 + 1 + 1 := (by omega); rw [List.flatMap_cons, e1]; simpa using h1
theorem TR.cells {w : World} {A : Option Addr} {n : Nat} {l : List (Nat × Int)} (h : TR w A n l) {i : Nat} {x : Nat × Int} (hi : l[i]? = some x) :
    ∃ ad, A = some ad ∧ ad.block < w.heap.size ∧ w.cell? (ad.add (i * 2)) = some (.int .i64 (x.1 : Int)) ∧ w.cell? (ad.add (i * 2 + 1)) = some (.int .i64 x.2) := by
  have hn : 0 < n := (by rw [← h.1]; exact Nat.lt_of_le_of_lt (Nat.zero_le i) (List.getElem?_eq_some_iff.1 hi).1); obtain ⟨ad, e, hb, hc⟩ := h.2.2 hn; obtain ⟨h1, h2⟩ := flat2 l i x hi; exact ⟨ad, e, hb, hc _ _ h1, hc _ _ h2⟩
end Go.Proofs.YtabkpbbjodfolaaGreatDoor
namespace Go.Proofs.YtabkpbbjodfolaaGreatDoor
set_option linter.unusedSimpArgs false
open Go.RowKit
set_option linter.unusedVariables false
end Go.Proofs.YtabkpbbjodfolaaGreatDoor
namespace Go.Proofs.YtabkpbbjodfolaaGreatDoor
set_option linter.unusedSimpArgs false
open Go.RowKit
set_option linter.unusedVariables false
end Go.Proofs.YtabkpbbjodfolaaGreatDoor
namespace Go.Proofs.YtabkpbbjodfolaaGreatDoor
set_option linter.unusedSimpArgs false
set_option linter.unusedVariables false
def LB : Nat := 4294967296
def valOf : List Nat → Nat
  | [] => 0
  | x :: r => x + LB * valOf r
def limbs (n : Nat) : List Nat := if _h : n = 0 then [] else n % LB :: limbs (n / LB)
termination_by n
decreasing_by exact Nat.div_lt_self (by omega) (by decide)
theorem valOf_append (a b : List Nat) : valOf (a ++ b) = valOf a + LB ^ a.length * valOf b := by
  induction a with
  | nil => simp [valOf]
  | cons x r ih => simp only [List.cons_append, valOf, ih, List.length_cons, Nat.pow_succ, Nat.mul_add]; rw [Nat.mul_comm (LB ^ r.length) LB, Nat.mul_assoc]; omega
theorem valOf_snoc (a : List Nat) (x : Nat) : valOf (a ++ [x]) = valOf a + LB ^ a.length * x := by rw [valOf_append]; simp [valOf]
theorem valOf_split (l : List Nat) (j : Nat) (hj : j < l.length) : valOf l = valOf (l.take j) + LB ^ j * (l[j]?.getD 0 + LB * valOf (l.drop (j+1))) := by
  have e : l = l.take j ++ (l[j] :: l.drop (j+1)) := (by rw [← List.drop_eq_getElem_cons hj, List.take_append_drop]); have h1 : (l.take j).length = j := (by simp; omega); have e2 := congrArg valOf e; rw [valOf_append, h1] at e2; rw [e2, List.getElem?_eq_getElem hj]; rfl
theorem valOf_set (l : List Nat) (j v : Nat) (hj : j < l.length) : valOf (l.set j v) + LB ^ j * l[j]?.getD 0 = valOf l + LB ^ j * v := by
  have h1 := valOf_split l j hj; have h2 := valOf_split (l.set j v) j (by simpa using hj); have e1 : (l.set j v).take j = l.take j := (by rw [List.take_set_of_le (Nat.le_refl _)]); have e2 : (l.set j v).drop (j+1) = l.drop (j+1) := (by rw [List.drop_set_of_lt (by omega)]); have e3 : (l.set j v)[j]?.getD 0 = v := (by simp [hj]); rw [e1, e2, e3] at h2; rw [h1, h2, Nat.mul_add, Nat.mul_add]; omega
theorem valOf_zeros (n : Nat) : valOf (List.replicate n 0) = 0 := by
  induction n with
  | zero => rfl
  | succ n ih => rw [List.replicate_succ]; simp [valOf, ih]
theorem valOf_take_succ (l : List Nat) (i : Nat) (hi : i < l.length) : valOf (l.take (i+1)) = valOf (l.take i) + LB ^ i * l[i]?.getD 0 := by
  rw [List.take_succ_eq_append_getElem hi, valOf_snoc, List.getElem?_eq_getElem hi]; have : (l.take i).length = i := (by simp; omega); rw [this]; rfl
structure TIn (la lb : List Nat) (n m i k : Nat) (O : List Nat) (q : Nat) : Prop where
  len : O.length = n + m
  cq : q < LB
  val : valOf O + q * LB ^ (i+k) = valOf (la.take i) * valOf lb + LB ^ i * (la[i]?.getD 0 * valOf (lb.take k))
  zero : ∀ j, i + m ≤ j → O[j]?.getD 0 = 0
structure TOut (la lb : List Nat) (n m i : Nat) (O : List Nat) : Prop where
  len : O.length = n + m
  val : valOf O = valOf (la.take i) * valOf lb
  zero : ∀ j, i + m ≤ j → O[j]?.getD 0 = 0
theorem TIn.step {la lb O : List Nat} {n m i k q : Nat} (h : TIn la lb n m i k O q) (hi : i < n) (hk : k < m) (hm : lb.length = m) (hx : la[i]?.getD 0 < LB) (hy : lb[k]?.getD 0 < LB) (ho : O[i+k]?.getD 0 < LB) :
    TIn la lb n m i (k+1) (O.set (i+k) ((O[i+k]?.getD 0 + la[i]?.getD 0 * lb[k]?.getD 0 + q) % LB)) ((O[i+k]?.getD 0 + la[i]?.getD 0 * lb[k]?.getD 0 + q) / LB) := by
  have hq := h.cq; have hv := h.val; have hset := valOf_set O (i+k) ((O[i+k]?.getD 0 + la[i]?.getD 0 * lb[k]?.getD 0 + q) % LB) (by rw [h.len]; omega); have ht := valOf_take_succ lb k (by omega); refine ⟨by simpa using h.len, ?_, ?_, fun j hj => ?_⟩
  · have h1 : la[i]?.getD 0 * lb[k]?.getD 0 ≤ (LB - 1) * (LB - 1) := Nat.mul_le_mul (by omega) (by omega); refine Nat.div_lt_of_lt_mul ?_; unfold LB at *
    omega
  · rw [ht]; generalize la[i]?.getD 0 = x at *
    generalize lb[k]?.getD 0 = y at *
    generalize O[i+k]?.getD 0 = o at *
    have e := Nat.mod_add_div (o + x * y + q) LB; generalize (o + x * y + q) % LB = r at *
    generalize (o + x * y + q) / LB = q' at *
    generalize valOf (O.set (i+k) r) = V' at *
    generalize valOf O = V at *
    generalize valOf (lb.take k) = T at *
    generalize valOf (la.take i) * valOf lb = S at *
    have e1 : LB ^ (i + (k+1)) = LB ^ (i+k) * LB := (by rw [← Nat.add_assoc, Nat.pow_succ]); have e2 : LB ^ (i+k) = LB ^ i * LB ^ k := Nat.pow_add ..; have e3 : q' * LB ^ (i + (k+1)) = LB ^ (i+k) * (LB * q') := (by rw [e1, Nat.mul_comm, Nat.mul_assoc]); have e4 : LB ^ (i+k) * (r + LB * q') = LB ^ (i+k) * (o + x * y + q) := (by rw [e])
    have e5 : LB ^ i * (x * (T + LB ^ k * y)) = LB ^ i * (x * T) + LB ^ (i+k) * (x * y) := by
      rw [e2, Nat.mul_add, Nat.mul_add, Nat.mul_assoc (LB^i)]; congr 2; rw [← Nat.mul_assoc, Nat.mul_comm x, Nat.mul_assoc]
    rw [e3, e5]; simp only [Nat.mul_add] at e4; have e6 : q * LB ^ (i+k) = LB ^ (i+k) * q := Nat.mul_comm _ _; rw [e6] at hv; omega
  · rw [List.getElem?_set_ne (by omega)]; exact h.zero j hj
theorem TIn.done {la lb O : List Nat} {n m i q : Nat} (h : TIn la lb n m i m O q) (hi : i < n) (hn : la.length = n) (hm : lb.length = m) : TOut la lb n m (i+1) (O.set (i+m) q) := by
  have hv := h.val; have hset := valOf_set O (i+m) q (by rw [h.len]; omega); rw [h.zero (i+m) (Nat.le_refl _), Nat.mul_zero, Nat.add_zero] at hset; refine ⟨by simpa using h.len, ?_, fun j hj => ?_⟩
  · rw [hset, valOf_take_succ la i (by omega), Nat.add_mul, Nat.mul_assoc]; rw [List.take_of_length_le (l := lb) (by omega), Nat.mul_comm q] at hv; exact hv
  · rw [List.getElem?_set_ne (by omega)]; exact h.zero j (by omega)
theorem TOut.start (la lb : List Nat) (n m : Nat) : TOut la lb n m 0 (List.replicate (n+m) 0) :=
  ⟨by simp, by simp [valOf_zeros, valOf], fun j _ => by rcases Nat.lt_or_ge j (n+m) with h | h <;> simp [h]⟩
theorem TOut.enter {la lb O : List Nat} {n m i : Nat} (h : TOut la lb n m i O) : TIn la lb n m i 0 O 0 :=
  ⟨h.len, by decide, by rw [h.val]; simp [valOf], h.zero⟩
theorem LB_two : LB = 2 ^ 32 := by decide
theorem LB_pow (q : Nat) : LB ^ q = 2 ^ (32 * q) := by rw [LB_two, ← Nat.pow_mul]
theorem or_add (r o s : Nat) (ho : o < 2 ^ r) (hs : 2 ^ r ∣ s) : o ||| s = o + s := by
  obtain ⟨t, rfl⟩ := hs; rw [Nat.or_comm, ← Nat.two_pow_add_eq_or_of_lt ho, Nat.add_comm]
structure UpI (la : List Nat) (n q r i : Nat) (O : List Nat) : Prop where
  len : O.length = n + q + 1
  val : valOf O = valOf (la.take i) * 2 ^ (32 * q + r)
  low : O[i+q]?.getD 0 < 2 ^ r
  zero : ∀ j, i + q < j → O[j]?.getD 0 = 0
theorem UpI.start (la : List Nat) (n q r : Nat) : UpI la n q r 0 (List.replicate (n+q+1) 0) := by
  have hz : ∀ j, (List.replicate (n+q+1) 0)[j]?.getD 0 = 0 := fun j => by rw [List.getElem?_replicate]; split <;> rfl
  exact ⟨by simp, by simp [valOf_zeros, valOf], by rw [hz]; exact Nat.two_pow_pos r, fun j _ => hz j⟩
theorem UpI.step {la O : List Nat} {n q r i : Nat} (h : UpI la n q r i O) (hi : i < n) (hl : la.length = n) (hr : r < 32) (hx : la[i]?.getD 0 < LB) :
    UpI la n q r (i+1) ((O.set (i+q) (O[i+q]?.getD 0 ||| (la[i]?.getD 0 * 2 ^ r) % LB)).set (i+q+1) ((la[i]?.getD 0 * 2 ^ r) / LB)) := by
  have hset1 := valOf_set O (i+q) (O[i+q]?.getD 0 ||| (la[i]?.getD 0 * 2 ^ r) % LB) (by rw [h.len]; omega); have hset2 := valOf_set (O.set (i+q) (O[i+q]?.getD 0 ||| (la[i]?.getD 0 * 2 ^ r) % LB)) (i+q+1) ((la[i]?.getD 0 * 2 ^ r) / LB) (by rw [List.length_set, h.len]; omega); have hz := h.zero (i+q+1) (by omega); rw [List.getElem?_set_ne (by omega), hz, Nat.mul_zero, Nat.add_zero] at hset2
  have hd : 2 ^ r ∣ (la[i]?.getD 0 * 2 ^ r) % LB := by
    have h1 : 2 ^ r ∣ LB := (by rw [LB_two]; exact Nat.pow_dvd_pow 2 (by omega)); exact (Nat.dvd_mod_iff h1).2 (Nat.dvd_mul_left _ _)
  rw [or_add r _ _ h.low hd] at hset1; rw [or_add r _ _ h.low hd] at hset2 ⊢; refine ⟨by simpa using h.len, ?_, ?_, fun j hj => ?_⟩
  · rw [hset2, valOf_take_succ la i (by omega), Nat.add_mul, ← h.val]; have e := Nat.mod_add_div (la[i]?.getD 0 * 2 ^ r) LB; generalize (la[i]?.getD 0 * 2 ^ r) % LB = m at *
    generalize (la[i]?.getD 0 * 2 ^ r) / LB = d at *
    have e1 : LB ^ (i+q+1) * d = LB ^ (i+q) * (LB * d) := (by rw [Nat.pow_succ, Nat.mul_assoc])
    have e2 : LB ^ i * la[i]?.getD 0 * 2 ^ (32 * q + r) = LB ^ (i+q) * (m + LB * d) := by
      rw [e, Nat.pow_add, ← LB_pow, Nat.pow_add, Nat.mul_assoc, Nat.mul_assoc]; congr 1; rw [← Nat.mul_assoc, Nat.mul_comm (la[i]?.getD 0) (LB ^ q), Nat.mul_assoc]
    rw [e1, e2, Nat.mul_add]; rw [Nat.mul_add] at hset1; omega
  · have : i + 1 + q = i + q + 1 := (by omega); rw [this, List.getElem?_set_self (by rw [List.length_set, h.len]; omega)]; refine Nat.div_lt_of_lt_mul ?_; exact Nat.mul_lt_mul_of_pos_right hx (Nat.two_pow_pos r)
  · rw [List.getElem?_set_ne (by omega), List.getElem?_set_ne (by omega)]; exact h.zero j (by omega)
end Go.Proofs.YtabkpbbjodfolaaGreatDoor
namespace Go.Proofs.YtabkpbbjodfolaaGreatDoor
set_option linter.unusedSimpArgs false
set_option linter.unusedVariables false
structure Mx where
  a : Int
  b : Int
  n : Nat
  fr : Nat → Int
  rk : Nat → List Int
def Mx.last (x : Mx) (i : Nat) : Int := if i + 1 < x.n then x.fr (i + 1) - 1 else x.b
structure Mx.Ord (x : Mx) : Prop where
  pos : 0 < x.n
  first : x.fr 0 = x.a
  up : ∀ i, i + 1 < x.n → x.fr i < x.fr (i + 1)
  le : ∀ i, i < x.n → x.fr i ≤ x.b
  ne : ∀ i, i < x.n → x.rk i ≠ []
def Mx.at (x : Mx) (key : Int) : Nat → Nat
  | 0 => 0
  | i+1 => if x.fr i ≤ key then i else Mx.at x key i
theorem Mx.Ord.mono {x : Mx} (h : x.Ord) : ∀ {j i : Nat}, i ≤ j → j < x.n → x.fr i ≤ x.fr j
  | 0, i, hi, _ => by
    have : i = 0 := (by omega); subst this; exact Int.le_refl _
  | j+1, i, hi, hj => by
    rcases Nat.lt_or_ge i (j + 1) with h1 | h1
    · have := h.mono (j := j) (i := i) (by omega) (by omega); have := h.up j hj; omega
    · have : i = j + 1 := (by omega); subst this; exact Int.le_refl _
theorem Mx.Ord.last_ge {x : Mx} (h : x.Ord) {i : Nat} (hi : i < x.n) : x.fr i ≤ x.last i := by
  unfold Mx.last
  split
  · rename_i h1; have := h.up i h1; omega
  · exact h.le i hi
theorem Mx.Ord.last_le {x : Mx} (h : x.Ord) {i : Nat} (hi : i < x.n) : x.last i ≤ x.b := by
  unfold Mx.last
  split
  · rename_i h1; have := h.le (i + 1) h1; omega
  · exact Int.le_refl _
theorem Mx.at_spec {x : Mx} (key : Int) : ∀ k, 0 < k → x.fr 0 ≤ key → x.at key k < k ∧ x.fr (x.at key k) ≤ key ∧ ∀ j, x.at key k < j → j < k → key < x.fr j
  | 0, h, _ => absurd h (by decide)
  | k+1, _, h0 => by
    unfold Mx.at
    split
    · rename_i h1; exact ⟨Nat.lt_succ_self _, h1, fun j h2 h3 => by omega⟩
    · rename_i h1; rcases Nat.eq_zero_or_pos k with hk | hk
      · subst hk; exact absurd h0 h1
      · obtain ⟨g1, g2, g3⟩ := Mx.at_spec key k hk h0; refine ⟨by omega, g2, fun j h2 h3 => ?_⟩; rcases Nat.lt_or_ge j k with h4 | h4
        · exact g3 j h2 h4
        · have : j = k := (by omega); subst this; omega
theorem Mx.Ord.at_in {x : Mx} (h : x.Ord) {key : Int} (h1 : x.a ≤ key) (h2 : key ≤ x.b) : x.at key x.n < x.n ∧ x.fr (x.at key x.n) ≤ key ∧ key ≤ x.last (x.at key x.n) := by
  obtain ⟨g1, g2, g3⟩ := Mx.at_spec (x := x) key x.n h.pos (by rw [h.first]; exact h1); refine ⟨g1, g2, ?_⟩; unfold Mx.last
  split
  · rename_i h3; have := g3 (x.at key x.n + 1) (Nat.lt_succ_self _) h3; omega
  · exact h2
theorem Mx.Ord.at_of {x : Mx} (h : x.Ord) {key : Int} {i : Nat} (hi : i < x.n) (h1 : x.fr i ≤ key) (h2 : key ≤ x.last i) : x.at key x.n = i := by
  have h0 : x.fr 0 ≤ key := Int.le_trans (h.mono (Nat.zero_le i) hi) h1; obtain ⟨g1, g2, g3⟩ := Mx.at_spec (x := x) key x.n h.pos h0; rcases Nat.lt_trichotomy (x.at key x.n) i with hl | hl | hl
  · have := g3 i hl hi; omega
  · exact hl
  · exfalso; unfold Mx.last at h2; rw [if_pos (by omega)] at h2; have := h.mono (i := i + 1) (j := x.at key x.n) hl g1; omega
theorem Mx.Ord.sound {x : Mx} (h : x.Ord) (lo hi : List Int → Int) (M : Int) :
    (∃ i, i < x.n ∧ (x.fr i + lo (x.rk i) < 0 ∨ M < x.last i + hi (x.rk i))) ↔ (∃ key, x.a ≤ key ∧ key ≤ x.b ∧ (key + lo (x.rk (x.at key x.n)) < 0 ∨ M < key + hi (x.rk (x.at key x.n)))) := by
  constructor
  · rintro ⟨i, hi', h1 | h1⟩
    · have e := h.at_of hi' (Int.le_refl _) (h.last_ge hi'); exact ⟨x.fr i, by rw [← h.first]; exact h.mono (Nat.zero_le i) hi', h.le i hi', .inl (by rw [e]; exact h1)⟩
    · have e := h.at_of hi' (h.last_ge hi') (Int.le_refl _); refine ⟨x.last i, ?_, h.last_le hi', .inr (by rw [e]; exact h1)⟩; have := h.last_ge hi'; have := h.mono (Nat.zero_le i) hi'; rw [h.first] at this; omega
  · rintro ⟨key, h1, h2, h3⟩; obtain ⟨g1, g2, g3⟩ := h.at_in h1 h2; refine ⟨_, g1, ?_⟩; rcases h3 with h3 | h3
    · left; omega
    · right; omega
end Go.Proofs.YtabkpbbjodfolaaGreatDoor
namespace Go.Proofs.YtabkpbbjodfolaaGreatDoor
set_option linter.unusedSimpArgs false
set_option linter.unusedVariables false
def anyN : Nat → (Nat → Bool) → Bool
  | 0, _ => false
  | k+1, p => anyN k p || p k
def gt (l : List Int) (i : Nat) : Int := l[i]?.getD 0
theorem gt_at {l : List Int} {i : Nat} (h : i < l.length) : l[i]? = some (gt l i) := by
  unfold gt; rw [List.getElem?_eq_getElem h]; rfl
def dnN (l : List Int) (k : Nat) : Bool := anyN k fun j => decide (gt l (j + 1) < gt l j)
def dn (l : List Int) : Bool := dnN l (l.length - 1)
def Mx.many (x : Mx) : Bool := anyN x.n fun i => decide (8 < (x.rk i).length)
def Mx.long (x : Mx) : Bool := decide (12 < x.n) || x.many
def Mx.bad (x : Mx) (i : Nat) : Bool := decide (x.fr i + gt (x.rk i) 0 < 0) || decide (139 < x.last i + gt (x.rk i) ((x.rk i).length - 1))
def Mx.snd (x : Mx) : Bool := anyN x.n x.bad
end Go.Proofs.YtabkpbbjodfolaaGreatDoor
