/- Base words for every text of this seat: memory predicates (a slice that reads as a list, a block known whole, append onto an own row), small facts. Parts began as the guide's "extra-words" lemmas that it bids to copy. -/
import Derived.Test.YtabkpbbjodfolaaGreatDoorRows
import Derived.WalkKit
import Derived.WalkSpells
import Derived.WalkLawsBesides
import Derived.Deep.QuietTactic
import Derived.Deep.AppendLies
import Derived.Deep.Draws
import Derived.Deep.OwnRows
import Derived.Deep.LoopGhost
import Derived.Deep.Light
import Derived.Deep.Cut
import Derived.Deep.CutRange
import Derived.BigQuiet
import Derived.BigRegion
import Derived.RegionTactic
import Derived.Maps.AppendAt
import Derived.OwnWalk
import Derived.Lib.Hide
import Derived.Handy
import Derived.Test.YtabkpbbjodfolaaGreatDoorCards
import Derived.Test.YtabkpbbjodfolaaGreatDoorTie
import Derived.ProofKit
import Derived.OpenShut
import Derived.Deep.DeepHandedRow
import Derived.Lib.LaidTab
import Derived.Stop.LaidErr
import Derived.ChangeSame
import Derived.ChangeSlices
import Derived.Carry
import Derived.Lay
import Derived.ChangeMaps5
import Derived.Deep.RegionLawGrows
import Derived.Deep.RegionHeld3
import Derived.Deep.Slices
import Derived.Deep.Strs
import Derived.Maps.Own
import Derived.Maps.Views
import Derived.StringKeys
import Derived.Lib.BitFns
import Derived.Test.YtabkpbbjodfolaaGreatDoorShelf
import Derived.Deep.RegionWith
import Derived.Test.YtabkpbbjodfolaaGreatDoorShelB
import Derived.Laws.Strings
import Derived.Deep.MidRow
import Derived.Test.YtabkpbbjodfolaaGreatDoorShelD
set_option linter.unusedSimpArgs false
set_option linter.unusedVariables false
set_option maxHeartbeats 25600000
set_option maxRecDepth 100000
namespace Go.Proofs.YtabkpbbjodfolaaGreatDoor
open Go.RowKit
theorem block_of_add (a : Addr) (n : Nat) : (a.add n).block = a.block := by unfold Addr.add; split <;> rfl
theorem add_of_add (a : Addr) (i j : Nat) : (a.add i).add j = a.add (i + j) := by
  unfold Addr.add
  by_cases hi : i = 0 <;> by_cases hj : j = 0 <;> simp [hi, hj, Nat.add_assoc]
def Reads (w : World) (B size : Nat) (A : Option Addr) (n : Nat) (xs : List Value) : Prop :=
  xs.length = n * size ∧ (0 < n → ∃ ad, A = some ad ∧ ad.block < B ∧ ∀ j u, xs[j]? = some u → w.cell? (ad.add j) = some u)
section
variable {w w' : World} {B B' size n : Nat} {A : Option Addr} {xs : List Value}
theorem Reads.at_ {k : Nat} (h : Reads w B 1 A n xs) (hk : k < n) : ∃ ad u, A = some ad ∧ ad.block < B ∧ xs[k]? = some u ∧ w.cell? (ad.add k) = some u := by
  obtain ⟨ad, e, hb, hc⟩ := h.2 (by omega); have hl : k < xs.length := (by have := h.1; omega); exact ⟨ad, xs[k], e, hb, List.getElem?_eq_getElem hl, hc k _ (List.getElem?_eq_getElem hl)⟩
theorem Reads.keep (h : Reads w B size A n xs) (hk : ∀ p : Addr, p.block < B → w'.cell? p = w.cell? p) : Reads w' B size A n xs :=
  ⟨h.1, fun hn => by
    obtain ⟨ad, e, hb, hc⟩ := h.2 hn
    exact ⟨ad, e, hb, fun j u hu => (hk _ (by rw [block_of_add]; exact hb)).trans (hc j u hu)⟩⟩
theorem Reads.more (h : Reads w B size A n xs) (hB : B ≤ B') : Reads w B' size A n xs :=
  ⟨h.1, fun hn => by
    obtain ⟨ad, e, hb, hc⟩ := h.2 hn
    exact ⟨ad, e, by omega, hc⟩⟩
theorem Reads.below (h : Reads w B size A n xs) (hb : Below B w w') : Reads w' B size A n xs := h.keep fun _ hp => hb.cell hp
theorem Reads.drew (h : Reads w B size A n xs) : Reads w.drew B size A n xs := h
theorem Reads.drewN (h : Reads w B size A n xs) (k : Nat) : Reads (w.drewN k) B size A n xs := h
theorem Reads.alloc (h : Reads w B size A n xs) (hB : B ≤ w.heap.size) (o : Obj) : Reads (w.alloc o) B size A n xs := h.keep fun p hp => World.cell?_alloc_lt w o p (by omega)
theorem Reads.setCell (h : Reads w B size A n xs) {p : Addr} (hB : B ≤ p.block) (u : Value) : Reads (w.setCell p u) B size A n xs :=
  h.keep fun q hq => World.cell?_setCell_other w p q u (fun e => by subst e; omega)
theorem Reads.grown (h : Reads w B size A n xs) {row : Option Nat} (hg : w.grownBy w' row) (hB : B ≤ w.heap.size) (hr : ∀ g, row = some g → B ≤ g) : Reads w' B size A n xs :=
  h.keep fun p hp => World.cell?_of_block (hg.block p.block (by omega) (fun e => by have := hr _ e.symm; omega))
theorem Reads.cut (h : Reads w B size A n xs) {k cap : Nat} (hk : k ≤ n) (hc : n ≤ cap) :
    Reads w B size (if cap = k then A else A.map (·.add (k * size))) (n - k) (xs.drop (k * size)) := by
  refine ⟨by rw [List.length_drop, h.1, Nat.sub_mul], fun hn => ?_⟩; obtain ⟨ad, rfl, hb, hcell⟩ := h.2 (by omega); rw [if_neg (by omega)]; refine ⟨ad.add (k * size), rfl, by rw [block_of_add]; exact hb, fun j u hu => ?_⟩; rw [add_of_add]; exact hcell _ u (by rw [← hu, List.getElem?_drop])
theorem Reads.of_own {base : Nat} {e : TypeId} {c : Nat} (h : w.ownsRow base e size (.slice A n c) n xs) : Reads w w.heap.size size A n xs := by
  refine ⟨h.1, fun hn => ?_⟩; obtain ⟨g, cap, hv, _, hlt⟩ := h.form hn; have hA : A = some ⟨g, 0, none⟩ := (by injection hv); subst hA; exact ⟨_, rfl, hlt, h.cells (g := g) rfl⟩
end
def Blk (w : World) (g : Nat) (t : TypeId) (cs : Array Value) : Prop := w.heap[g]? = some (.cells cs t (0, 0))
section
variable {w w' : World} {g : Nat} {t : TypeId} {cs : Array Value}
theorem Blk.lt (h : Blk w g t cs) : g < w.heap.size := by
  rcases Nat.lt_or_ge g w.heap.size with hlt | hge
  · exact hlt
  · unfold Blk at h; rw [Array.getElem?_eq_none hge] at h; cases h
theorem Blk.cell (h : Blk w g t cs) (i : Nat) : w.cell? ⟨g, i, none⟩ = cs[i]? := cell_of_row w g i cs t (0, 0) h
theorem Blk.frozen (h : Blk w g t cs) (i : Nat) : w.frozen? ⟨g, i, none⟩ = false := by
  unfold Blk at h; simp [World.frozen?, h]
theorem Blk.new (w : World) (t : TypeId) (cs : Array Value) : Blk (w.alloc (.cells cs t)) w.heap.size t cs := heap_alloc_new w _
theorem Blk.drew (h : Blk w g t cs) : Blk w.drew g t cs := h
theorem Blk.drewN (h : Blk w g t cs) (n : Nat) : Blk (w.drewN n) g t cs := h
theorem Blk.alloc (h : Blk w g t cs) (o : Obj) : Blk (w.alloc o) g t cs := (Below.heap_alloc w o g h.lt).trans h
theorem Blk.set_ (h : Blk w g t cs) (i : Nat) (u : Value) : Blk (w.setCell ⟨g, i, none⟩ u) g t (cs.setIfInBounds i u) := by
  unfold Blk at h ⊢; simp [World.setCell, Array.getElem?_modify, h]
theorem Blk.far (h : Blk w g t cs) {p : Addr} (hp : g ≠ p.block) (u : Value) : Blk (w.setCell p u) g t cs := (Below.heap_setCell w p u g hp).trans h
theorem Blk.below {B : Nat} (h : Blk w g t cs) (hb : Below B w w') (hg : g < B) : Blk w' g t cs := (hb.block g hg).trans h
theorem Blk.grown {row : Option Nat} (h : Blk w g t cs) (hb : w.grownBy w' row) (hg : some g ≠ row) : Blk w' g t cs := (hb.block g h.lt hg).trans h
theorem Blk.ne_ {g' : Nat} {t' : TypeId} {cs' : Array Value} (h : Blk w g t cs) (h' : Blk w g' t' cs') (hne : t ≠ t') : g ≠ g' := by
  rintro rfl; unfold Blk at h h'; rw [h] at h'; injection h' with h'
  injection h' with _ ht
  exact hne ht
theorem own_blk_ne {base : Nat} {e : TypeId} {size n : Nat} {v : Value} {xs : List Value} (h : w.ownsRow base e size v n xs) (hg : Blk w g t cs) (hne : e ≠ t) : v.ownBlock ≠ some g := by
  rcases h.2 with ⟨rfl, _⟩ | ⟨g', cap, cur, rfl, _, hh, _⟩
  · simp [Value.ownBlock]
  · intro he; have : g' = g := (by simpa [Value.ownBlock] using he); subst this; exact Blk.ne_ (t := e) hh hg hne rfl
end
section
variable {P : Program} (w : World)
theorem run_append_of_nil (base : Nat) (t ty e : TypeId) (i : TypeInfo) (size : Nat) (ht : P.underlying t = some (.slice e)) (hi : P.info? e = some i)
    (v : Value) (n : Nat) (xs : List Value) (hown : w.ownsRow base e size v n xs) (c : Nat) : (Builtin.append_ #[t, t] ty #[v, .slice none 0 c]).run P w = .ok v w := by
  rcases hown.2 with ⟨rfl, rfl⟩ | ⟨g, cap, cur, rfl, _, _, hnc, _⟩
  · simp [Builtin.append_, run_underlying ht, sizeOf, typeInfo, hi, Builtin.lenOf, Builtin.firstCells]
  · simp [Builtin.append_, run_underlying ht, sizeOf, typeInfo, hi, Builtin.lenOf, Builtin.firstCells, hnc, storeCells]
theorem run_append_any (base : Nat) (t ty e : TypeId) (i : TypeInfo) (z : Value) (size bytes : Nat) (ht : P.underlying t = some (.slice e)) (hi : P.info? e = some i) (hz : i.zero = some z)
    (hsize : i.size = size) (hby : i.bytes = bytes) (hzs : z.cells.size = size) (hsz : 0 < size)
    (v : Value) (n : Nat) (xs : List Value) (hown : w.ownsRow base e size v n xs)
    (B : Nat) (A : Option Addr) (m c : Nat) (news : List Value) (hr : Reads w B size A m news) (h1 : ∀ u ∈ news, u.oneCell' = true)
    (h63 : n + m ≤ maxLen) (hbytes : (n + m) * bytes ≤ 140737488355328) (hbase : base ≤ w.heap.size) :
    ∃ v' w', (Builtin.append_ #[t, t] ty #[v, .slice A m c]).run P w = .ok v' w' ∧ w'.ownsRow base e size v' (n + m) (xs ++ news) ∧ w.grownBy w' v.ownBlock ∧
      (v'.ownBlock = v.ownBlock ∨ v'.ownBlock = some w.heap.size) := by
  rcases A with _ | ad
  · have hm : m = 0 := by
      rcases Nat.eq_zero_or_pos m with h0 | h0
      · exact h0
      · obtain ⟨ad, h, _⟩ := hr.2 h0
        cases h
    subst hm; have hn : news = [] := List.eq_nil_of_length_eq_zero (by simpa using hr.1); subst hn; exact ⟨v, w, run_append_of_nil w base t ty e i size ht hi v n xs hown c, by simpa using hown, World.grownBy.refl w _, .inl rfl⟩
  · have hcells : ∀ j u, news[j]? = some u → w.cell? (ad.add j) = some u := by
      intro j u hu; rcases Nat.eq_zero_or_pos m with h0 | h0
      · subst h0; have hn : news = [] := List.eq_nil_of_length_eq_zero (by simpa using hr.1); subst hn; simp at hu
      · obtain ⟨ad', h, _, hc⟩ := hr.2 h0; injection h with h
        subst h; exact hc j u hu
    obtain ⟨v', w', hrun, h2, h3, _, h5⟩ := run_append_own_at (P := P) w base t ty e i z size bytes ht hi hz hsize hby hzs hsz v n xs hown ad m c news hr.1 hcells h1 h63 hbytes hbase; exact ⟨v', w', hrun, h2, h3, h5⟩
theorem wp_append_any {o : Oper} {a : Act} {K : Act → World → Prop} {Q : Exit → Act → World → Prop} (s x : Operand) (t : TypeId)
    (ho : o.op = .call { callee := .builtin .append, args := #[s, x], argTypes := #[t, t] })
    (base : Nat) (e : TypeId) (i : TypeInfo) (z : Value) (size bytes : Nat) (ht : P.underlying t = some (.slice e)) (hi : P.info? e = some i) (hz : i.zero = some z)
    (hsize : i.size = size) (hby : i.bytes = bytes) (hzs : z.cells.size = size) (hsz : 0 < size)
    (v : Value) (n : Nat) (xs : List Value) (hs : a.eval s = v) (hown : w.ownsRow base e size v n xs)
    (B : Nat) (A : Option Addr) (m c : Nat) (news : List Value) (hx : a.eval x = .slice A m c) (hr : Reads w B size A m news) (h1 : ∀ u ∈ news, u.oneCell' = true)
    (h63 : n + m ≤ maxLen) (hbytes : (n + m) * bytes ≤ 140737488355328) (hbase : base ≤ w.heap.size)
    (h : ∀ v' w', w'.ownsRow base e size v' (n + m) (xs ++ news) → w.grownBy w' v.ownBlock → (v'.ownBlock = v.ownBlock ∨ v'.ownBlock = some w.heap.size) → K (a.put o.dst v') w') : o.wp P a w K Q := by
  obtain ⟨v', w', hrun, h2, h3, h4⟩ := run_append_any (P := P) w base t o.type e i z size bytes ht hi hz hsize hby hzs hsz v n xs hown B A m c news hr h1 h63 hbytes hbase; unfold Oper.wp execOp; simp only [ho, resolve, invoke, builtin, Sem.run_bind, Sem.run_pure, Result.andThen_ok, List.map_toArray, List.map_cons, List.map_nil, hs, hx, hrun]; exact h v' w' h2 h3 h4
theorem wpList_append_any {ops : Array Oper} {rest : List Oper} {o : Oper} {a : Act} {Q : Exit → Act → World → Prop} (hgd : o.guard = none) (s x : Operand) (t : TypeId)
    (ho : o.op = .call { callee := .builtin .append, args := #[s, x], argTypes := #[t, t] })
    (base : Nat) (e : TypeId) (i : TypeInfo) (z : Value) (size bytes : Nat) (ht : P.underlying t = some (.slice e)) (hi : P.info? e = some i) (hz : i.zero = some z)
    (hsize : i.size = size) (hby : i.bytes = bytes) (hzs : z.cells.size = size) (hsz : 0 < size)
    (v : Value) (n : Nat) (xs : List Value) (hs : a.eval s = v) (hown : w.ownsRow base e size v n xs)
    (B : Nat) (A : Option Addr) (m c : Nat) (news : List Value) (hx : a.eval x = .slice A m c) (hr : Reads w B size A m news) (h1 : ∀ u ∈ news, u.oneCell' = true)
    (h63 : n + m ≤ maxLen) (hbytes : (n + m) * bytes ≤ 140737488355328) (hbase : base ≤ w.heap.size)
    (h : ∀ v' w', w'.ownsRow base e size v' (n + m) (xs ++ news) → w.grownBy w' v.ownBlock → (v'.ownBlock = v.ownBlock ∨ v'.ownBlock = some w.heap.size) → wpList P ops Q rest (a.put o.dst v') w') : wpList P ops Q (o :: rest) a w :=
  wpList_plain hgd fun _ hK => wp_append_any w s x t ho base e i z size bytes ht hi hz hsize hby hzs hsz v n xs hs hown B A m c news hx hr h1 h63 hbytes hbase fun v' w' h2 h3 h4 => hK _ _ (h v' w' h2 h3 h4)
end
theorem ret_int {k : IntKind} {a b : Int} (h : a = b) : Ending.returned (.int k a) = .returned (.int k b) := by rw [h]
structure Sl (p : Prop) : Prop where
  out : p
theorem below_drewN {B : Nat} {a w : World} (h : Below B a w) (n : Nat) : Below B a (w.drewN n) := ⟨h.os, h.tape, h.output, h.size, h.block⟩
end Go.Proofs.YtabkpbbjodfolaaGreatDoor
namespace Go.Proofs.YtabkpbbjodfolaaGreatDoor
open Go.ChangeShapes Go.WideShapes Go.ChangeAt Go.RowKit
section
variable {H : Type} {enc : TypeId × Value → H} {P : Program}
theorem post_of_below {f : Func} {s : ChangeSpec} {apart fresh handsOn again : Bool} {W W' : World} {args : Array Value} {v : Value} {ds gs : List (DataW H)} {before pa pv : List MemPlace}
    (hW : DataW.Whole enc P f.params.toList s.vars apart W args.toList ds gs before)
    (hres : ∀ (b : Nat) (sp : Nat → Bool) (hd : Bool), DataW.TrodAll enc P W' b sp hd f.resultTypes.toList (v.resultList f.resultTypes.size) (s.fn H (ds ++ gs)).results [])
    (hargs : ∀ sp : Nat → Bool, (∀ p ∈ before, sp p.block = true) → DataW.TrodAll enc P W' 0 sp true f.params.toList args.toList (s.fn H (ds ++ gs)).args pa)
    (hvars : ∀ sp : Nat → Bool, (∀ p ∈ before, sp p.block = true) → DataW.TrodVars enc P W' sp s.vars (s.fn H (ds ++ gs)).vars pv)
    (hps : before = pa ++ pv) (hb : Below W.heap.size W W')
    (hok : ∀ (j : Nat) (t : TypeId) (r : Value), f.resultTypes[j]? = some t → (v.resultList f.resultTypes.size)[j]? = some r → Value.okWide P W' .any 0 t r) :
    s.post enc P f apart fresh handsOn again W args v W' := by
  have hlt : ∀ p ∈ before, p.block < W.heap.size := fun p hp => hW.lt p hp
  have hold : ∀ p ∈ before, (fun b => decide (b < W.heap.size)) p.block = true := fun p hp => by simpa using hlt p hp
  refine ⟨ds, gs, before, [], pa, pv, hW, hres _ _ _, hargs _ hold, hvars _ hold, World.keptBut_mono (fun p hp => ⟨hp, ?_⟩) (hb.frame (· ∈ before)), fun _ => ?_⟩
  · rw [hps, List.mem_append] at hp; exact Or.inr hp
  · obtain ⟨_, _, _, _, _, hz, hn⟩ := hW; refine ⟨hok, _, _, ([] ++ pa) ++ pv, ⟨[] ++ pa, pv, trodAll_append (hargs _ (fun _ _ => rfl)) (hres _ _ _), hvars _ (fun _ _ => rfl), rfl, ?_, ?_⟩, ?_⟩
    · intro b off hp; have hin : MemPlace.cell b off ∈ before := (by rw [hps]; simpa using hp); rw [hb.frozen (hlt _ hin)]; exact hz b off hin
    · intro ha; have := hn ha; rw [hps] at this; simpa using this
    · intro p hp _; rw [hps]; simpa using hp
end
theorem ownK : ownKnob Tryz.prog.godebug = none := by kernel_rfl
theorem laidO : laidOutB Tryz.prog = true := by kernel_rfl
def laidLM : List (String × DataW Unit) := [("math/bits.deBruijn32tab", Rows.laid_math_bits_deBruijn32tab), ("math/bits.deBruijn64tab", Rows.laid_math_bits_deBruijn64tab), ("internal/strconv.uint64pow10", Rows.laid_internal_strconv_uint64pow10)]
noncomputable def laidWorldM (os : Os) : World := World.laidAll Tryz.prog os laidLM
theorem laid_metM (os : Os) (args : Array Value) : laidMet Tryz.prog laidLM ((laidWorldM os).forCall (fun _ _ => 0) ⟨#[], args, []⟩).memory :=
  laidMet_laidAll args (by kernel_rfl) (by kernel_rfl)
theorem wf_i64 {z : Int} (h : (Lit.int .i64 z).wf = true) : -9223372036854775808 ≤ z ∧ z < 9223372036854775808 := by
  simp [Lit.wf, IntKind.min, IntKind.max, IntKind.signed, IntKind.bits] at h; omega
theorem stays {H : Type} {enc : TypeId × Value → H} {t : TypeId} (hr : Tryz.prog.readableRec t = true) (hrow : t < Tryz.prog.types.size) {W W' : World} {v : Value} {d : DataW H} {ps : List MemPlace} (h : DataW.Trod enc Tryz.prog W 0 (fun _ => true) true t v d ps) (hb : Below W.heap.size W W') (hlt : ∀ x ∈ ps, x.block < W.heap.size) (sp : Nat → Bool) (hsp : ∀ x ∈ ps, sp x.block = true) :
    DataW.Trod enc Tryz.prog W' 0 sp true t v d ps := WideElems.Trod_stays laidO hr hrow h (fun x hx => hb.same (hlt x hx)) (fun x hx => hsp x hx)
end Go.Proofs.YtabkpbbjodfolaaGreatDoor
namespace Go.Proofs.YtabkpbbjodfolaaGreatDoor
open Go.RowKit
end Go.Proofs.YtabkpbbjodfolaaGreatDoor
namespace Go.Proofs.YtabkpbbjodfolaaGreatDoor
open Go.RowKit
def TR (w : World) (A : Option Addr) (n : Nat) (l : List (Nat × Int)) : Prop :=
  l.length = n ∧ Reads w w.heap.size 2 A n (l.flatMap fun x => [.int .i64 (x.1 : Int), .int .i64 x.2])
theorem TR.below {w w' : World} {A : Option Addr} {n : Nat} {l : List (Nat × Int)} (h : TR w A n l) (hb : Below w.heap.size w w') : TR w' A n l :=
  ⟨h.1, (h.2.below hb).more hb.size⟩
theorem flat2 (l : List (Nat × Int)) : ∀ i x, l[i]? = some x → (l.flatMap fun x => [Value.int .i64 (x.1 : Int), Value.int .i64 x.2])[i * 2]? = some (.int .i64 (x.1 : Int)) ∧ (l.flatMap fun x => [Value.int .i64 (x.1 : Int), Value.int .i64 x.2])[i * 2 + 1]? = some (.int .i64 x.2) := by
  induction l with
  | nil => intro i x h; cases h
  | cons y l ih =>
    intro i x h
    cases i with
    | zero => cases h; simp
    | succ i =>
      have h1 := ih i x (by simpa using h); have e1 : (i + 1) * 2 = i * 2 + 1 + 1 := (by omega); have e2 : (i + 1) * 2 + 1 = i * 2 + 1 + 1 + 1 := (by omega); rw [List.flatMap_cons, e1]; simpa using h1
theorem TR.cells {w : World} {A : Option Addr} {n : Nat} {l : List (Nat × Int)} (h : TR w A n l) {i : Nat} {x : Nat × Int} (hi : l[i]? = some x) :
    ∃ ad, A = some ad ∧ ad.block < w.heap.size ∧ w.cell? (ad.add (i * 2)) = some (.int .i64 (x.1 : Int)) ∧ w.cell? (ad.add (i * 2 + 1)) = some (.int .i64 x.2) := by
  have hn : 0 < n := (by rw [← h.1]; exact Nat.lt_of_le_of_lt (Nat.zero_le i) (List.getElem?_eq_some_iff.1 hi).1); obtain ⟨ad, e, hb, hc⟩ := h.2.2 hn; obtain ⟨h1, h2⟩ := flat2 l i x hi; exact ⟨ad, e, hb, hc _ _ h1, hc _ _ h2⟩
end Go.Proofs.YtabkpbbjodfolaaGreatDoor
namespace Go.Proofs.YtabkpbbjodfolaaGreatDoor
open Go.RowKit
open Go.RowKit
def LB : Nat := 4294967296
def valOf : List Nat → Nat
  | [] => 0
  | x :: r => x + LB * valOf r
def limbs (n : Nat) : List Nat := if _h : n = 0 then [] else n % LB :: limbs (n / LB)
termination_by n
decreasing_by exact Nat.div_lt_self (by omega) (by decide)
theorem valOf_append (a b : List Nat) : valOf (a ++ b) = valOf a + LB ^ a.length * valOf b := by
  induction a with
  | nil => simp [valOf]
  | cons x r ih => simp only [List.cons_append, valOf, ih, List.length_cons, Nat.pow_succ, Nat.mul_add]; rw [Nat.mul_comm (LB ^ r.length) LB, Nat.mul_assoc]; omega
theorem valOf_snoc (a : List Nat) (x : Nat) : valOf (a ++ [x]) = valOf a + LB ^ a.length * x := by rw [valOf_append]; simp [valOf]
theorem valOf_split (l : List Nat) (j : Nat) (hj : j < l.length) : valOf l = valOf (l.take j) + LB ^ j * (l[j]?.getD 0 + LB * valOf (l.drop (j+1))) := by
  have e : l = l.take j ++ (l[j] :: l.drop (j+1)) := (by rw [← List.drop_eq_getElem_cons hj, List.take_append_drop]); have h1 : (l.take j).length = j := (by simp; omega); have e2 := congrArg valOf e; rw [valOf_append, h1] at e2; rw [e2, List.getElem?_eq_getElem hj]; rfl
theorem valOf_set (l : List Nat) (j v : Nat) (hj : j < l.length) : valOf (l.set j v) + LB ^ j * l[j]?.getD 0 = valOf l + LB ^ j * v := by
  have h1 := valOf_split l j hj; have h2 := valOf_split (l.set j v) j (by simpa using hj); have e1 : (l.set j v).take j = l.take j := (by rw [List.take_set_of_le (Nat.le_refl _)]); have e2 : (l.set j v).drop (j+1) = l.drop (j+1) := (by rw [List.drop_set_of_lt (by omega)]); have e3 : (l.set j v)[j]?.getD 0 = v := (by simp [hj]); rw [e1, e2, e3] at h2; rw [h1, h2, Nat.mul_add, Nat.mul_add]; omega
theorem valOf_zeros (n : Nat) : valOf (List.replicate n 0) = 0 := by
  induction n with
  | zero => rfl
  | succ n ih => rw [List.replicate_succ]; simp [valOf, ih]
theorem valOf_take_succ (l : List Nat) (i : Nat) (hi : i < l.length) : valOf (l.take (i+1)) = valOf (l.take i) + LB ^ i * l[i]?.getD 0 := by
  rw [List.take_succ_eq_append_getElem hi, valOf_snoc, List.getElem?_eq_getElem hi]; have : (l.take i).length = i := (by simp; omega); rw [this]; rfl
structure TIn (la lb : List Nat) (n m i k : Nat) (O : List Nat) (q : Nat) : Prop where
  len : O.length = n + m
  cq : q < LB
  val : valOf O + q * LB ^ (i+k) = valOf (la.take i) * valOf lb + LB ^ i * (la[i]?.getD 0 * valOf (lb.take k))
  zero : ∀ j, i + m ≤ j → O[j]?.getD 0 = 0
structure TOut (la lb : List Nat) (n m i : Nat) (O : List Nat) : Prop where
  len : O.length = n + m
  val : valOf O = valOf (la.take i) * valOf lb
  zero : ∀ j, i + m ≤ j → O[j]?.getD 0 = 0
theorem TIn.step {la lb O : List Nat} {n m i k q : Nat} (h : TIn la lb n m i k O q) (hi : i < n) (hk : k < m) (hm : lb.length = m) (hx : la[i]?.getD 0 < LB) (hy : lb[k]?.getD 0 < LB) (ho : O[i+k]?.getD 0 < LB) :
    TIn la lb n m i (k+1) (O.set (i+k) ((O[i+k]?.getD 0 + la[i]?.getD 0 * lb[k]?.getD 0 + q) % LB)) ((O[i+k]?.getD 0 + la[i]?.getD 0 * lb[k]?.getD 0 + q) / LB) := by
  have hq := h.cq; have hv := h.val; have hset := valOf_set O (i+k) ((O[i+k]?.getD 0 + la[i]?.getD 0 * lb[k]?.getD 0 + q) % LB) (by rw [h.len]; omega); have ht := valOf_take_succ lb k (by omega); refine ⟨by simpa using h.len, ?_, ?_, fun j hj => ?_⟩
  · have h1 : la[i]?.getD 0 * lb[k]?.getD 0 ≤ (LB - 1) * (LB - 1) := Nat.mul_le_mul (by omega) (by omega); refine Nat.div_lt_of_lt_mul ?_; unfold LB at *
    omega
  · rw [ht]; generalize la[i]?.getD 0 = x at *
    generalize lb[k]?.getD 0 = y at *
    generalize O[i+k]?.getD 0 = o at *
    have e := Nat.mod_add_div (o + x * y + q) LB; generalize (o + x * y + q) % LB = r at *
    generalize (o + x * y + q) / LB = q' at *
    generalize valOf (O.set (i+k) r) = V' at *
    generalize valOf O = V at *
    generalize valOf (lb.take k) = T at *
    generalize valOf (la.take i) * valOf lb = S at *
    have e1 : LB ^ (i + (k+1)) = LB ^ (i+k) * LB := (by rw [← Nat.add_assoc, Nat.pow_succ]); have e2 : LB ^ (i+k) = LB ^ i * LB ^ k := Nat.pow_add ..; have e3 : q' * LB ^ (i + (k+1)) = LB ^ (i+k) * (LB * q') := (by rw [e1, Nat.mul_comm, Nat.mul_assoc]); have e4 : LB ^ (i+k) * (r + LB * q') = LB ^ (i+k) * (o + x * y + q) := (by rw [e])
    have e5 : LB ^ i * (x * (T + LB ^ k * y)) = LB ^ i * (x * T) + LB ^ (i+k) * (x * y) := by
      rw [e2, Nat.mul_add, Nat.mul_add, Nat.mul_assoc (LB^i)]; congr 2; rw [← Nat.mul_assoc, Nat.mul_comm x, Nat.mul_assoc]
    rw [e3, e5]; simp only [Nat.mul_add] at e4; have e6 : q * LB ^ (i+k) = LB ^ (i+k) * q := Nat.mul_comm _ _; rw [e6] at hv; omega
  · rw [List.getElem?_set_ne (by omega)]; exact h.zero j hj
theorem TIn.done {la lb O : List Nat} {n m i q : Nat} (h : TIn la lb n m i m O q) (hi : i < n) (hn : la.length = n) (hm : lb.length = m) : TOut la lb n m (i+1) (O.set (i+m) q) := by
  have hv := h.val; have hset := valOf_set O (i+m) q (by rw [h.len]; omega); rw [h.zero (i+m) (Nat.le_refl _), Nat.mul_zero, Nat.add_zero] at hset; refine ⟨by simpa using h.len, ?_, fun j hj => ?_⟩
  · rw [hset, valOf_take_succ la i (by omega), Nat.add_mul, Nat.mul_assoc]; rw [List.take_of_length_le (l := lb) (by omega), Nat.mul_comm q] at hv; exact hv
  · rw [List.getElem?_set_ne (by omega)]; exact h.zero j (by omega)
theorem TOut.start (la lb : List Nat) (n m : Nat) : TOut la lb n m 0 (List.replicate (n+m) 0) :=
  ⟨by simp, by simp [valOf_zeros, valOf], fun j _ => by rcases Nat.lt_or_ge j (n+m) with h | h <;> simp [h]⟩
theorem TOut.enter {la lb O : List Nat} {n m i : Nat} (h : TOut la lb n m i O) : TIn la lb n m i 0 O 0 :=
  ⟨h.len, by decide, by rw [h.val]; simp [valOf], h.zero⟩
theorem LB_two : LB = 2 ^ 32 := by decide
theorem LB_pow (q : Nat) : LB ^ q = 2 ^ (32 * q) := by rw [LB_two, ← Nat.pow_mul]
theorem or_add (r o s : Nat) (ho : o < 2 ^ r) (hs : 2 ^ r ∣ s) : o ||| s = o + s := by
  obtain ⟨t, rfl⟩ := hs; rw [Nat.or_comm, ← Nat.two_pow_add_eq_or_of_lt ho, Nat.add_comm]
structure UpI (la : List Nat) (n q r i : Nat) (O : List Nat) : Prop where
  len : O.length = n + q + 1
  val : valOf O = valOf (la.take i) * 2 ^ (32 * q + r)
  low : O[i+q]?.getD 0 < 2 ^ r
  zero : ∀ j, i + q < j → O[j]?.getD 0 = 0
theorem UpI.start (la : List Nat) (n q r : Nat) : UpI la n q r 0 (List.replicate (n+q+1) 0) := by
  have hz : ∀ j, (List.replicate (n+q+1) 0)[j]?.getD 0 = 0 := fun j => by rw [List.getElem?_replicate]; split <;> rfl
  exact ⟨by simp, by simp [valOf_zeros, valOf], by rw [hz]; exact Nat.two_pow_pos r, fun j _ => hz j⟩
theorem UpI.step {la O : List Nat} {n q r i : Nat} (h : UpI la n q r i O) (hi : i < n) (hl : la.length = n) (hr : r < 32) (hx : la[i]?.getD 0 < LB) :
    UpI la n q r (i+1) ((O.set (i+q) (O[i+q]?.getD 0 ||| (la[i]?.getD 0 * 2 ^ r) % LB)).set (i+q+1) ((la[i]?.getD 0 * 2 ^ r) / LB)) := by
  have hset1 := valOf_set O (i+q) (O[i+q]?.getD 0 ||| (la[i]?.getD 0 * 2 ^ r) % LB) (by rw [h.len]; omega); have hset2 := valOf_set (O.set (i+q) (O[i+q]?.getD 0 ||| (la[i]?.getD 0 * 2 ^ r) % LB)) (i+q+1) ((la[i]?.getD 0 * 2 ^ r) / LB) (by rw [List.length_set, h.len]; omega); have hz := h.zero (i+q+1) (by omega); rw [List.getElem?_set_ne (by omega), hz, Nat.mul_zero, Nat.add_zero] at hset2
  have hd : 2 ^ r ∣ (la[i]?.getD 0 * 2 ^ r) % LB := by
    have h1 : 2 ^ r ∣ LB := (by rw [LB_two]; exact Nat.pow_dvd_pow 2 (by omega)); exact (Nat.dvd_mod_iff h1).2 (Nat.dvd_mul_left _ _)
  rw [or_add r _ _ h.low hd] at hset1; rw [or_add r _ _ h.low hd] at hset2 ⊢; refine ⟨by simpa using h.len, ?_, ?_, fun j hj => ?_⟩
  · rw [hset2, valOf_take_succ la i (by omega), Nat.add_mul, ← h.val]; have e := Nat.mod_add_div (la[i]?.getD 0 * 2 ^ r) LB; generalize (la[i]?.getD 0 * 2 ^ r) % LB = m at *
    generalize (la[i]?.getD 0 * 2 ^ r) / LB = d at *
    have e1 : LB ^ (i+q+1) * d = LB ^ (i+q) * (LB * d) := (by rw [Nat.pow_succ, Nat.mul_assoc])
    have e2 : LB ^ i * la[i]?.getD 0 * 2 ^ (32 * q + r) = LB ^ (i+q) * (m + LB * d) := by
      rw [e, Nat.pow_add, ← LB_pow, Nat.pow_add, Nat.mul_assoc, Nat.mul_assoc]; congr 1; rw [← Nat.mul_assoc, Nat.mul_comm (la[i]?.getD 0) (LB ^ q), Nat.mul_assoc]
    rw [e1, e2, Nat.mul_add]; rw [Nat.mul_add] at hset1; omega
  · have : i + 1 + q = i + q + 1 := (by omega); rw [this, List.getElem?_set_self (by rw [List.length_set, h.len]; omega)]; refine Nat.div_lt_of_lt_mul ?_; exact Nat.mul_lt_mul_of_pos_right hx (Nat.two_pow_pos r)
  · rw [List.getElem?_set_ne (by omega), List.getElem?_set_ne (by omega)]; exact h.zero j (by omega)
structure Mx where
  a : Int
  b : Int
  n : Nat
  fr : Nat → Int
  rk : Nat → List Int
def Mx.last (x : Mx) (i : Nat) : Int := if i + 1 < x.n then x.fr (i + 1) - 1 else x.b
structure Mx.Ord (x : Mx) : Prop where
  pos : 0 < x.n
  first : x.fr 0 = x.a
  up : ∀ i, i + 1 < x.n → x.fr i < x.fr (i + 1)
  le : ∀ i, i < x.n → x.fr i ≤ x.b
  ne : ∀ i, i < x.n → x.rk i ≠ []
def Mx.at (x : Mx) (key : Int) : Nat → Nat
  | 0 => 0
  | i+1 => if x.fr i ≤ key then i else Mx.at x key i
theorem Mx.Ord.mono {x : Mx} (h : x.Ord) : ∀ {j i : Nat}, i ≤ j → j < x.n → x.fr i ≤ x.fr j
  | 0, i, hi, _ => by
    have : i = 0 := (by omega); subst this; exact Int.le_refl _
  | j+1, i, hi, hj => by
    rcases Nat.lt_or_ge i (j + 1) with h1 | h1
    · have := h.mono (j := j) (i := i) (by omega) (by omega); have := h.up j hj; omega
    · have : i = j + 1 := (by omega); subst this; exact Int.le_refl _
theorem Mx.Ord.last_ge {x : Mx} (h : x.Ord) {i : Nat} (hi : i < x.n) : x.fr i ≤ x.last i := by
  unfold Mx.last
  split
  · rename_i h1; have := h.up i h1; omega
  · exact h.le i hi
theorem Mx.Ord.last_le {x : Mx} (h : x.Ord) {i : Nat} (hi : i < x.n) : x.last i ≤ x.b := by
  unfold Mx.last
  split
  · rename_i h1; have := h.le (i + 1) h1; omega
  · exact Int.le_refl _
theorem Mx.at_spec {x : Mx} (key : Int) : ∀ k, 0 < k → x.fr 0 ≤ key → x.at key k < k ∧ x.fr (x.at key k) ≤ key ∧ ∀ j, x.at key k < j → j < k → key < x.fr j
  | 0, h, _ => absurd h (by decide)
  | k+1, _, h0 => by
    unfold Mx.at
    split
    · rename_i h1; exact ⟨Nat.lt_succ_self _, h1, fun j h2 h3 => by omega⟩
    · rename_i h1; rcases Nat.eq_zero_or_pos k with hk | hk
      · subst hk; exact absurd h0 h1
      · obtain ⟨g1, g2, g3⟩ := Mx.at_spec key k hk h0; refine ⟨by omega, g2, fun j h2 h3 => ?_⟩; rcases Nat.lt_or_ge j k with h4 | h4
        · exact g3 j h2 h4
        · have : j = k := (by omega); subst this; omega
theorem Mx.Ord.at_in {x : Mx} (h : x.Ord) {key : Int} (h1 : x.a ≤ key) (h2 : key ≤ x.b) : x.at key x.n < x.n ∧ x.fr (x.at key x.n) ≤ key ∧ key ≤ x.last (x.at key x.n) := by
  obtain ⟨g1, g2, g3⟩ := Mx.at_spec (x := x) key x.n h.pos (by rw [h.first]; exact h1); refine ⟨g1, g2, ?_⟩; unfold Mx.last
  split
  · rename_i h3; have := g3 (x.at key x.n + 1) (Nat.lt_succ_self _) h3; omega
  · exact h2
theorem Mx.Ord.at_of {x : Mx} (h : x.Ord) {key : Int} {i : Nat} (hi : i < x.n) (h1 : x.fr i ≤ key) (h2 : key ≤ x.last i) : x.at key x.n = i := by
  have h0 : x.fr 0 ≤ key := Int.le_trans (h.mono (Nat.zero_le i) hi) h1; obtain ⟨g1, g2, g3⟩ := Mx.at_spec (x := x) key x.n h.pos h0; rcases Nat.lt_trichotomy (x.at key x.n) i with hl | hl | hl
  · have := g3 i hl hi; omega
  · exact hl
  · exfalso; unfold Mx.last at h2; rw [if_pos (by omega)] at h2; have := h.mono (i := i + 1) (j := x.at key x.n) hl g1; omega
theorem Mx.Ord.sound {x : Mx} (h : x.Ord) (lo hi : List Int → Int) (M : Int) :
    (∃ i, i < x.n ∧ (x.fr i + lo (x.rk i) < 0 ∨ M < x.last i + hi (x.rk i))) ↔ (∃ key, x.a ≤ key ∧ key ≤ x.b ∧ (key + lo (x.rk (x.at key x.n)) < 0 ∨ M < key + hi (x.rk (x.at key x.n)))) := by
  constructor
  · rintro ⟨i, hi', h1 | h1⟩
    · have e := h.at_of hi' (Int.le_refl _) (h.last_ge hi'); exact ⟨x.fr i, by rw [← h.first]; exact h.mono (Nat.zero_le i) hi', h.le i hi', .inl (by rw [e]; exact h1)⟩
    · have e := h.at_of hi' (h.last_ge hi') (Int.le_refl _); refine ⟨x.last i, ?_, h.last_le hi', .inr (by rw [e]; exact h1)⟩; have := h.last_ge hi'; have := h.mono (Nat.zero_le i) hi'; rw [h.first] at this; omega
  · rintro ⟨key, h1, h2, h3⟩; obtain ⟨g1, g2, g3⟩ := h.at_in h1 h2; refine ⟨_, g1, ?_⟩; rcases h3 with h3 | h3
    · left; omega
    · right; omega
def anyN : Nat → (Nat → Bool) → Bool
  | 0, _ => false
  | k+1, p => anyN k p || p k
def gt (l : List Int) (i : Nat) : Int := l[i]?.getD 0
theorem gt_at {l : List Int} {i : Nat} (h : i < l.length) : l[i]? = some (gt l i) := by
  unfold gt; rw [List.getElem?_eq_getElem h]; rfl
def dnN (l : List Int) (k : Nat) : Bool := anyN k fun j => decide (gt l (j + 1) < gt l j)
def dn (l : List Int) : Bool := dnN l (l.length - 1)
def Mx.many (x : Mx) : Bool := anyN x.n fun i => decide (8 < (x.rk i).length)
def Mx.long (x : Mx) : Bool := decide (12 < x.n) || x.many
def Mx.bad (x : Mx) (i : Nat) : Bool := decide (x.fr i + gt (x.rk i) 0 < 0) || decide (139 < x.last i + gt (x.rk i) ((x.rk i).length - 1))
end Go.Proofs.YtabkpbbjodfolaaGreatDoor
namespace Go.Proofs.YtabkpbbjodfolaaGreatDoor
open Go.RowKit
def i64 (z : Int) : Prop := -9223372036854775808 ≤ z ∧ z < 9223372036854775808
def iv (z : Int) : Value := .int .i64 z
def II (w : World) (A : Option Addr) (n : Nat) (l : List Int) : Prop := l.length = n ∧ Reads w w.heap.size 1 A n (l.map iv)
theorem II.below {w w' : World} {A : Option Addr} {n : Nat} {l : List Int} (h : II w A n l) (hb : Below w.heap.size w w') : II w' A n l := ⟨h.1, (h.2.below hb).more hb.size⟩
theorem II.nil (w : World) (A : Option Addr) : II w A 0 [] := ⟨rfl, by simp, fun h => absurd h (by omega)⟩
theorem II.cell {w : World} {A : Option Addr} {n : Nat} {l : List Int} (h : II w A n l) {j : Nat} (hj : j < n) : ∃ ad, A = some ad ∧ ad.block < w.heap.size ∧ w.cell? (ad.add j) = some (.int .i64 (gt l j)) := by
  obtain ⟨ad, e, hb, hc⟩ := h.2.2 (by omega); refine ⟨ad, e, hb, hc _ _ ?_⟩; rw [List.getElem?_map, gt_at (by rw [h.1]; exact hj)]; rfl
structure Bk where
  fr : Int
  A : Option Addr
  n : Nat
  c : Nat
  l : List Int
def Bk.cells (b : Bk) : List Value := [.int .i64 b.fr, .slice b.A b.n b.c]
theorem flatK (L : List Bk) : ∀ i b, L[i]? = some b → (L.flatMap Bk.cells)[i * 2]? = some (.int .i64 b.fr) ∧ (L.flatMap Bk.cells)[i * 2 + 1]? = some (.slice b.A b.n b.c) := by
  induction L with
  | nil => intro i x h; cases h
  | cons y l ih =>
    intro i x h
    cases i with
    | zero => cases h; simp [Bk.cells]
    | succ i =>
      have h1 := ih i x (by simpa using h); have e1 : (i + 1) * 2 = i * 2 + 1 + 1 := (by omega); rw [List.flatMap_cons, e1]; simpa [Bk.cells] using h1
structure MX (w : World) (A : Option Addr) (n : Nat) (L : List Bk) : Prop where
  len : L.length = n
  rd : Reads w w.heap.size 2 A n (L.flatMap Bk.cells)
  rk : ∀ b ∈ L, II w b.A b.n b.l
theorem MX.below {w w' : World} {A : Option Addr} {n : Nat} {L : List Bk} (h : MX w A n L) (hb : Below w.heap.size w w') : MX w' A n L :=
  ⟨h.len, (h.rd.below hb).more hb.size, fun b hm => (h.rk b hm).below hb⟩
theorem MX.cells {w : World} {A : Option Addr} {n : Nat} {L : List Bk} (h : MX w A n L) {i : Nat} {b : Bk} (hi : L[i]? = some b) :
    ∃ ad, A = some ad ∧ ad.block < w.heap.size ∧ w.cell? (ad.add (i * 2)) = some (.int .i64 b.fr) ∧ w.cell? (ad.add (i * 2 + 1)) = some (.slice b.A b.n b.c) := by
  have hn : 0 < n := (by rw [← h.len]; exact Nat.lt_of_le_of_lt (Nat.zero_le i) (List.getElem?_eq_some_iff.1 hi).1); obtain ⟨ad, e, hb, hc⟩ := h.rd.2 hn; obtain ⟨h1, h2⟩ := flatK L i b hi; exact ⟨ad, e, hb, hc _ _ h1, hc _ _ h2⟩
structure MXA (w : World) (A : Option Addr) (n c : Nat) (L : List Bk) : Prop where
  mx : MX w A n L
  cap : n ≤ c ∧ c ≤ maxLen
  fr : ∀ b ∈ L, i64 b.fr
  rc : ∀ b ∈ L, b.n ≤ b.c ∧ b.c ≤ maxLen
  ri : ∀ b ∈ L, ∀ z ∈ b.l, i64 z
theorem MXA.below {w w' : World} {A : Option Addr} {n c : Nat} {L : List Bk} (h : MXA w A n c L) (hb : Below w.heap.size w w') : MXA w' A n c L := ⟨h.mx.below hb, h.cap, h.fr, h.rc, h.ri⟩
end Go.Proofs.YtabkpbbjodfolaaGreatDoor
namespace Go.Proofs.YtabkpbbjodfolaaGreatDoor
open Go.ChangeShapes Go.WideShapes Go.ChangeAt Go.RowKit Go.Deep
theorem ints_trod {H : Type} {enc : TypeId × Value → H} {W : World} {fuel : Nat} {v : Value} {x : DataW H × List MemPlace} (h : DataW.trod enc Tryz.prog W 0 (fun _ => true) true fuel 43 [v] = some x) (hb : ∀ p ∈ x.2, p.block < W.heap.size) :
    ∃ A n c l, v = .slice A n c ∧ II W A n l ∧ (n ≤ c ∧ c ≤ maxLen) ∧ ∀ z ∈ l, i64 z := by
  rcases open_ints Tryz.underlying43 Tryz.underlying3 (by kernel_rfl) h with ⟨hv, _⟩ | ⟨a, len, cap, zs, hv, _, hlc, hcm, hzl, hx, hcell, hwf⟩
  · simp at hv; exact ⟨none, 0, 0, [], hv, II.nil _ _, ⟨by simp, by decide⟩, by simp⟩
  · simp at hv; subst hv; simp only [if_true] at hzl; rw [hx] at hb; refine ⟨some a, len, cap, zs.take len, rfl, ⟨by rw [List.length_take]; omega, by simp; omega, fun h0 => ⟨a, rfl, ?_, fun j u hu => ?_⟩⟩, ⟨hlc, hcm⟩, fun z hz => wf_i64 (hwf z (List.mem_of_mem_take hz))⟩
    · exact hb _ (MemPlace.mem_row.2 ⟨0, by omega, rfl⟩)
    · rw [List.getElem?_map] at hu; rcases Nat.lt_or_ge j len with hj | hj
      · rw [List.getElem?_take_of_lt hj, List.getElem?_eq_getElem (by omega)] at hu; simp at hu; subst hu; rw [hcell j (by omega)]; have e : zs.getD j 0 = zs[j]'(by omega) := (by simp [List.getD, List.getElem?_eq_getElem (show j < zs.length by omega)]); rw [e]; rfl
      · rw [List.getElem?_eq_none (by simp; omega)] at hu
        cases hu
end Go.Proofs.YtabkpbbjodfolaaGreatDoor
namespace Go.Proofs.YtabkpbbjodfolaaGreatDoor
open Go.ChangeShapes Go.WideShapes Go.ChangeAt Go.RowKit Go.Deep
end Go.Proofs.YtabkpbbjodfolaaGreatDoor
namespace Go.Proofs.YtabkpbbjodfolaaGreatDoor
open Go.RowKit
def ltrI (z : Int) : Bool := decide (97 ≤ bits .or .u8 z 32) && decide (bits .or .u8 z 32 ≤ 122)
def digI (z : Int) : Bool := decide (48 ≤ z) && decide (z ≤ 57)
theorem letter_any (z : Int) (w : World) : Calls Tryz.prog 182 #[.int .u8 z] w fun e w' => e = .returned (.bool (ltrI z)) ∧ w' = w := by
  obtain ⟨y, hy⟩ : ∃ y, bits .or .u8 z 32 = y := ⟨_, rfl⟩; have HC : Sl (ltrI z = (decide (97 ≤ y) && decide (y ≤ 122))) := ⟨by unfold ltrI; rw [hy]⟩
  by_cases h : 97 ≤ y
  · have hb : decide (97 ≤ y) = true := decide_eq_true h; rw [hb] at HC; go_enter Tryz.func182, Tryz.ntmps182; go_wp2_with fail; go_ret; exact ⟨by first | rfl | (rw [HC.out]; simp), rfl⟩
  · have hb : decide (97 ≤ y) = false := decide_eq_false h; rw [hb] at HC; go_enter Tryz.func182, Tryz.ntmps182; go_wp2_with fail; go_ret; exact ⟨by first | rfl | (rw [HC.out]; rfl), rfl⟩
theorem digit_any (z : Int) (w : World) : Calls Tryz.prog 183 #[.int .u8 z] w fun e w' => e = .returned (.bool (digI z)) ∧ w' = w := by
  by_cases h : 48 ≤ z
  · have hb : decide (48 ≤ z) = true := decide_eq_true h; have HC : Sl (digI z = decide (z ≤ 57)) := ⟨by unfold digI; rw [hb]; rfl⟩; go_enter Tryz.func183, Tryz.ntmps183; go_wp2_with fail; go_ret; exact ⟨by first | rfl | (rw [HC.out]; rfl), rfl⟩
  · have hb : decide (48 ≤ z) = false := decide_eq_false h; have HC : Sl (digI z = false) := ⟨by unfold digI; rw [hb]; rfl⟩; go_enter Tryz.func183, Tryz.ntmps183; go_wp2_with fail; go_ret; exact ⟨by first | rfl | (rw [HC.out]; rfl), rfl⟩
theorem within_any (a b c : Int) (w : World) : Calls Tryz.prog 138 #[.int .i64 a, .int .i64 b, .int .i64 c] w fun e w' => e = .returned (.bool (decide (b ≤ a) && decide (a ≤ c))) ∧ w' = w := by
  by_cases h : b ≤ a
  · have hb : decide (b ≤ a) = true := decide_eq_true h; have HC : Sl ((decide (b ≤ a) && decide (a ≤ c)) = decide (a ≤ c)) := ⟨by rw [hb]; rfl⟩; go_enter Tryz.func138, Tryz.ntmps138; go_wp2_with fail; go_ret; exact ⟨by first | rfl | (rw [HC.out]; rfl), rfl⟩
  · have hb : decide (b ≤ a) = false := decide_eq_false h; have HC : Sl ((decide (b ≤ a) && decide (a ≤ c)) = false) := ⟨by rw [hb]; rfl⟩; go_enter Tryz.func138, Tryz.ntmps138; go_wp2_with fail; go_ret; exact ⟨by first | rfl | (rw [HC.out]; rfl), rfl⟩
def nmC (i : Nat) (z : Int) : Bool := ltrI z || (!decide (i = 0) && (decide (z = 95) || digI z))
def nmB (s : ByteArray) : Bool := (List.range s.size).all (fun i => nmC i ((s.data.toList.getD i 0).toNat : Int)) && (decide (1 ≤ s.size) && decide (s.size ≤ 16))
theorem nmC_byte {s : ByteArray} {i : Nat} (h : i < s.size) : s.data.toList.getD i 0 = s[i] := by
  rw [List.getD, List.getElem?_eq_getElem (by rw [Array.length_toList]; exact h)]; rfl
theorem nm_bad {s : ByteArray} {k : Nat} (h : k < s.size) (hb : nmC k ((s[k].toNat : Nat) : Int) = false) : nmB s = false := by
  unfold nmB; rw [Bool.and_eq_false_iff]; refine .inl ?_; rw [List.all_eq_false]; exact ⟨k, List.mem_range.2 h, by rw [nmC_byte h, hb]; decide⟩
theorem nm_end {s : ByteArray} (h : ∀ k (hk : k < s.size), nmC k ((s[k].toNat : Nat) : Int) = true) : nmB s = (decide (1 ≤ s.size) && decide (s.size ≤ 16)) := by
  unfold nmB
  have : (List.range s.size).all (fun i => nmC i ((s.data.toList.getD i 0).toNat : Int)) = true := List.all_eq_true.2 fun k hk => by
    have hk := List.mem_range.1 hk; rw [nmC_byte hk]; exact h k hk
  rw [this, Bool.true_and]
theorem name_any (s : ByteArray) (hs : s.size ≤ maxLen) (w : World) : Calls Tryz.prog 140 #[.string s] w fun e w' => e = .returned (.bool (nmB s)) ∧ w' = w := by
  unfold maxLen at hs; go_enter Tryz.func140, Tryz.ntmps140; go_wp2_with fail
  go_loopw [7] (fun s7 wr => ∃ k : Nat, k ≤ s.size ∧ s7 = .int .i64 k ∧ Sl (∀ j (hj : j < s.size), j < k → nmC j ((s[j].toNat : Nat) : Int) = true) ∧ wr = w) (fun s7 _ => s.size - (RowKit.intOf s7).toNat)
  case atStart => exact ⟨0, Nat.zero_le _, rfl, ⟨fun j _ h => absurd h (Nat.not_lt_zero _)⟩, rfl⟩
  case round =>
    obtain ⟨k, hk, rfl, HG, rfl⟩ := hrel
    by_cases hlt : k < s.size
    · have hkI : decide ((k : Int) < (s.size : Int)) = true := decide_eq_true (by omega); have hkI2 : (k : Int) < (s.size : Int) := (by omega); obtain ⟨z, hz⟩ : ∃ z : Int, ((s[k].toNat : Nat) : Int) = z := ⟨_, rfl⟩; have HLT : Sl _ := ⟨letter_any z wr⟩; have HDG : Sl _ := ⟨digit_any z wr⟩; have HZ : Sl _ := ⟨hz⟩; have HN : Sl (nmC k z = (ltrI z || (!decide (k = 0) && (decide (z = 95) || digI z)))) := ⟨rfl⟩; have HBAD : Sl (nmC k z = false → nmB s = false) := ⟨fun h => nm_bad hlt (by rw [hz]; exact h)⟩
      have HNX : Sl (nmC k z = true → ∀ j (hj : j < s.size), j < k + 1 → nmC j ((s[j].toNat : Nat) : Int) = true) := ⟨fun h j hj hjk => by
        rcases Nat.lt_or_ge j k with h1 | h1
        · exact HG.out j hj h1
        · obtain rfl : j = k := (by omega)
          rw [hz]; exact h⟩
      go_wp2_with fail; refine HLT.out.mono ?_; rintro e w1 ⟨rfl, rfl⟩
      cases hl : ltrI z with
      | true =>
        have HY : Sl (nmC k z = true) := ⟨by rw [HN.out, hl]; rfl⟩; clear hl; go_wp2_with fail; exact ⟨⟨k + 1, hlt, by go_num, ⟨HNX.out HY.out⟩, by trivial⟩, by simp [RowKit.intOf]; omega⟩
      | false =>
        have HN2 : Sl (nmC k z = (!decide (k = 0) && (decide (z = 95) || digI z))) := ⟨by rw [HN.out, hl]; rfl⟩; clear hl
        by_cases hk0 : k = 0
        · have q0 : ((k : Int) == 0) = true := (by rw [beq_iff_eq]; omega); have HBD : Sl (nmB s = false) := ⟨HBAD.out (by rw [HN2.out, decide_eq_true hk0]; rfl)⟩; clear hk0; go_wp2_with fail
          (try simp only [Exit.inBlock, Exit.then])
          go_ret; exact ⟨by first | rfl | (rw [HBD.out]; rfl), rfl⟩
        · have q0 : ((k : Int) == 0) = false := (by rw [beq_eq_false_iff_ne]; omega); have HN3 : Sl (nmC k z = (decide (z = 95) || digI z)) := ⟨by rw [HN2.out, decide_eq_false hk0]; rfl⟩
          by_cases h95 : z = 95
          · have q9 : (z != 95) = false := (by rw [bne_eq_false_iff_eq]; exact h95); have HY : Sl (nmC k z = true) := ⟨by rw [HN3.out, decide_eq_true h95]; rfl⟩; clear h95; go_wp2_with fail; exact ⟨⟨k + 1, hlt, by go_num, ⟨HNX.out HY.out⟩, by trivial⟩, by simp [RowKit.intOf]; omega⟩
          · have q9 : (z != 95) = true := (by rw [bne_iff_ne]; exact h95); have HN4 : Sl (nmC k z = digI z) := ⟨by rw [HN3.out, decide_eq_false h95]; rfl⟩; clear h95; go_wp2_with fail; refine HDG.out.mono ?_; rintro e w2 ⟨rfl, rfl⟩
            cases hd : digI z with
            | true =>
              have HY : Sl (nmC k z = true) := ⟨by rw [HN4.out, hd]⟩; clear hd; go_wp2_with fail; exact ⟨⟨k + 1, hlt, by go_num, ⟨HNX.out HY.out⟩, by trivial⟩, by simp [RowKit.intOf]; omega⟩
            | false =>
              have HBD : Sl (nmB s = false) := ⟨HBAD.out (by rw [HN4.out, hd])⟩; clear hd; go_wp2_with fail
              (try simp only [Exit.inBlock, Exit.then])
              go_ret; exact ⟨by first | rfl | (rw [HBD.out]; rfl), rfl⟩
    · have hkI : decide ((k : Int) < (s.size : Int)) = false := decide_eq_false (by omega); have HE : Sl _ := ⟨nm_end (s := s) fun j hj => HG.out j hj (by omega)⟩
      by_cases h1 : 1 ≤ s.size
      · have q1 : decide (1 ≤ (s.size : Int)) = true := decide_eq_true (by omega)
        have HR : Sl (nmB s = decide ((s.size : Int) ≤ 16)) := ⟨by
          rw [HE.out, decide_eq_true h1, Bool.true_and]
          by_cases h2 : s.size ≤ 16
          · rw [decide_eq_true h2, decide_eq_true (by omega)]
          · rw [decide_eq_false h2, decide_eq_false (by omega)]⟩
        go_wp2_with fail; go_ret; exact ⟨by first | rfl | (rw [HR.out]; rfl), rfl⟩
      · have q1 : decide (1 ≤ (s.size : Int)) = false := decide_eq_false (by omega); have HR : Sl (nmB s = false) := ⟨by rw [HE.out, decide_eq_false h1]; rfl⟩; go_wp2_with fail; go_ret; exact ⟨by first | rfl | (rw [HR.out]; rfl), rfl⟩
end Go.Proofs.YtabkpbbjodfolaaGreatDoor
namespace Go.Proofs.YtabkpbbjodfolaaGreatDoor
open Go.RowKit Go.Maps Go.WideMaps
theorem law_str : Keyed Tryz.prog 9 := string_keyed Tryz.underlying9
def NM (w : World) (b n : Nat) (l : List (List UInt8)) : Prop := ∃ D : DataW Unit, w.ownsMap Tryz.prog 9 (plainElem Tryz.prog 4) b n D ∧ IsMap D ∧
  ∀ s : ByteArray, s.size ≤ maxLen → D.atKey (.string s.data.toList) (.lit (.bool false)) = .lit (.bool (decide (s.data.toList ∈ l)))
theorem elem_bool {P : Program} {e : TypeId} (he : P.underlying e = some .bool) {v : Value} {q : Bool} {ps : List MemPlace} (h : plainElem (H := Unit) P e v = some (.lit (.bool q), ps)) : v = .bool q := by
  unfold plainElem at h; rw [he] at h
  cases v <;> simp at h
  rw [h.1]
theorem bytes_data {a b : ByteArray} (h : a.data.toList = b.data.toList) : a = b := by
  cases a; cases b
  simpa using h
theorem NM.made (w : World) : NM (w.alloc (.map #[] 0)) w.heap.size 0 [] :=
  ⟨.map [], World.ownsMap_made w _ _ _, ⟨[], rfl⟩, fun s _ => by simp [DataW.atKey]⟩
theorem NM.lt {w : World} {b n : Nat} {l : List (List UInt8)} (h : NM w b n l) : b < w.heap.size := by
  obtain ⟨D, h1, _⟩ := h; exact h1.lt
theorem NM.kept {w w' : World} {b n : Nat} {l : List (List UInt8)} (h : NM w b n l) (hb : w'.heap[b]? = w.heap[b]?) : NM w' b n l := by
  obtain ⟨D, ⟨es, clock, h1, h2⟩, h3⟩ := h; exact ⟨D, ⟨es, clock, by rw [hb]; exact h1, h2⟩, h3⟩
theorem NM.look {w : World} {b n : Nat} {l : List (List UInt8)} (h : NM w b n l) {s : ByteArray} (hs : s.size ≤ maxLen) :
    (Instr.lookup 162 (.map (some b)) (.string s) false).run Tryz.prog w = .ok (.bool (decide (s.data.toList ∈ l))) w := by
  obtain ⟨D, h1, h2, h3⟩ := h; obtain ⟨v, ps, hrun, hv⟩ := h1.lookup law_str Tryz.underlying162 (e := 4) (z := .bool false) (by kernel_rfl) (plainElem_bool Tryz.underlying4 false) (keyOf_string_mk Tryz.underlying9 hs); rw [h3 s hs] at hv; rw [hrun, elem_bool Tryz.underlying4 hv]
theorem NM.put {w : World} {b n : Nat} {l : List (List UInt8)} (h : NM w b n l) {s : ByteArray} (hs : s.size ≤ maxLen) (hn : n < maxLen) :
    ∃ w', (Instr.mapUpdate 162 (.map (some b)) (.string s) (.bool true)).run Tryz.prog w = .ok () w' ∧ NM w' b (n + 1) (s.data.toList :: l) ∧ w.grownBy w' (some b) := by
  obtain ⟨D, h1, h2, h3⟩ := h; obtain ⟨w', hrun, h4, h5⟩ := h1.update law_str Tryz.underlying162 hn (keyOf_string_mk Tryz.underlying9 hs) (plainElem_bool Tryz.underlying4 true); refine ⟨w', hrun, ⟨_, h4, ?_, fun u hu => ?_⟩, h5⟩
  · obtain ⟨es, rfl⟩ := h2; exact ⟨_, DataW.put_eq ..⟩
  · by_cases hus : u = s
    · subst hus; rw [atKey_put_same h2 (by exact trivial)]; rw [decide_eq_true (List.mem_cons_self)]
    · rw [atKey_put_other (fun e => hus (by injection e with e; exact bytes_data e)), h3 u hu]; have hne : u.data.toList ≠ s.data.toList := fun e => hus (bytes_data e)
      congr 2; rw [decide_eq_decide]
      exact ⟨fun h => List.mem_cons_of_mem _ h, fun h => by
        rcases List.mem_cons.1 h with h | h
        · exact absurd h hne
        · exact h⟩
end Go.Proofs.YtabkpbbjodfolaaGreatDoor
namespace Go.Proofs.YtabkpbbjodfolaaGreatDoor
open Go.RowKit
theorem wpList_put_nm {ops : Array Oper} {rest : List Oper} {o : Oper} {a : Act} {w : World} {Q : Exit → Act → World → Prop} (hg : o.guard = none) (m x v : Operand) (hop : o.op = Op.mapUpdate 162 m x v)
    (b n : Nat) (l : List (List UInt8)) (s : ByteArray) (hm : a.eval m = .map (some b)) (hx : a.eval x = .string s) (hv : a.eval v = .bool true) (h : NM w b n l) (hs : s.size ≤ maxLen) (hn : n < maxLen)
    (hK : ∀ w', NM w' b (n + 1) (s.data.toList :: l) → w.grownBy w' (some b) → wpList Tryz.prog ops Q rest (a.put o.dst undef) w') : wpList Tryz.prog ops Q (o :: rest) a w := by
  refine wpList_plain hg fun K' hK' => ?_
  obtain ⟨w', hrun, r1, r2⟩ := h.put hs hn; unfold Oper.wp; simp [execOp, hop, hm, hx, hv, hrun, Result.andThen]; exact hK' _ _ (hK w' r1 r2)
theorem nmB_size {s : ByteArray} (h : nmB s = true) : 1 ≤ s.size ∧ s.size ≤ 16 := by
  unfold nmB at h; rw [Bool.and_eq_true, Bool.and_eq_true, decide_eq_true_eq, decide_eq_true_eq] at h; exact h.2
def keyN (ks nm : ByteArray) : ByteArray := ks ++ ⟨#[32]⟩ ++ nm
theorem cnamed_any (g b n : Nat) (l : List (List UInt8)) (ks nm : ByteArray) (w : World) (hc : w.cell? ⟨g, 4, none⟩ = some (.map (some b))) (hN : NM w b n l) (hks : ks.size ≤ 100) (hn : n ≤ 1000000) (hnm : nm.size ≤ maxLen) :
    Calls Tryz.prog 137 #[.pointer (some ⟨g, 0, none⟩), .string ks, .string nm] w fun e w' =>
      (nmB nm = false → e = .returned (.int .i64 6) ∧ w' = w) ∧
      (nmB nm = true → (keyN ks nm).data.toList ∈ l → e = .returned (.int .i64 8) ∧ w' = w) ∧
      (nmB nm = true → (keyN ks nm).data.toList ∉ l → e = .returned (.int .i64 0) ∧ NM w' b (n + 1) ((keyN ks nm).data.toList :: l) ∧ w.grownBy w' (some b)) := by
  have HNM : Sl _ := ⟨name_any nm hnm w⟩; have HN : Sl _ := ⟨hN⟩; clear hN hnm
  cases hb : nmB nm with
  | false =>
    rw [hb] at HNM; clear hb; go_enter Tryz.func137, Tryz.ntmps137; go_wp2_with fail; refine HNM.out.mono ?_; rintro e w1 ⟨rfl, rfl⟩; go_wp2_with fail; go_ret; exact ⟨fun _ => ⟨rfl, rfl⟩, fun h => (by cases h), fun h => (by cases h)⟩
  | true =>
    have hsz := nmB_size hb; rw [hb] at HNM; clear hb; have hk1 : (keyN ks nm).size ≤ maxLen := (by unfold keyN maxLen; simp only [ByteArray.size_append]; have : (⟨#[32]⟩ : ByteArray).size = 1 := rfl; omega); have HK : Sl _ := ⟨hk1⟩; have hlk := HN.out.look hk1; have h32 : (⟨#[32]⟩ : ByteArray).size = 1 := rfl; clear hk1
    by_cases hm : (keyN ks nm).data.toList ∈ l
    · rw [decide_eq_true hm] at hlk; have HM : Sl _ := ⟨hm⟩; clear hm; unfold keyN at hlk; go_enter Tryz.func137, Tryz.ntmps137; go_wp2_with fail; refine HNM.out.mono ?_; rintro e w1 ⟨rfl, rfl⟩; go_wp2_with fail; go_ret; exact ⟨fun h => (by cases h), fun _ _ => ⟨rfl, rfl⟩, fun _ h => absurd HM.out h⟩
    · rw [decide_eq_false hm] at hlk; have HM : Sl _ := ⟨hm⟩; clear hm; unfold keyN at hlk; go_enter Tryz.func137, Tryz.ntmps137; go_wp2_with fail; refine HNM.out.mono ?_; rintro e w1 ⟨rfl, rfl⟩
      go_wp2_with ((with_reducible show wpList _ _ _ _ _ _); first
        | (refine wpList_put_nm rfl (.tmp 22) (.tmp 26) _ rfl b n l (keyN ks nm) rfl rfl rfl HN.out HK.out (by unfold maxLen; omega) ?_; intro w2 hN2 hg2))
      go_ret; exact ⟨fun h => (by cases h), fun _ h => absurd h HM.out, fun _ _ => ⟨rfl, hN2, hg2⟩⟩
end Go.Proofs.YtabkpbbjodfolaaGreatDoor
namespace Go.Proofs.YtabkpbbjodfolaaGreatDoor
section
variable {a b s x y z v : Nat}
end
open Go.RowKit
end Go.Proofs.YtabkpbbjodfolaaGreatDoor
namespace Go.Proofs.YtabkpbbjodfolaaGreatDoor
open Go.RowKit
theorem wgcd_any (a b : Nat) (w : World) (ha : a < 4000000000000000000) (hb : b < 4000000000000000000) :
    Calls Tryz.prog 210 #[.int .i64 a, .int .i64 b] w fun e w' => e = .returned (.int .i64 (Nat.gcd a b)) ∧ ∃ m, w' = w.drewN m := by
  go_enter Tryz.func210, Tryz.ntmps210; go_wp2_with fail
  go_loopw [0, 1] (fun s0 s1 wr => ∃ (x y : Nat), s0 = .int .i64 x ∧ s1 = .int .i64 y ∧ x < 4000000000000000000 ∧ y < 4000000000000000000 ∧ Sl (Nat.gcd x y = Nat.gcd a b ∧ ∃ m, wr = w.drewN m)) (fun _ s1 _ => (RowKit.intOf s1).toNat)
  case atStart => exact ⟨a, b, rfl, rfl, ha, hb, ⟨rfl, 0, rfl⟩⟩
  case round =>
    clear ha hb; obtain ⟨x, y, rfl, rfl, hx, hy, HG⟩ := hrel; rcases Nat.eq_zero_or_pos y with h0 | h0
    · subst h0; go_wp2_with fail; go_ret; obtain ⟨h1, m, h2⟩ := HG.out; rw [Nat.gcd_zero_right] at h1; exact ⟨by rw [← h1]; rfl, m, h2⟩
    · have hne : ((y : Int) == 0) = false := (by rw [beq_eq_false_iff_ne]; omega); have hmod : (x : Int).tmod (y : Int) = ((x % y : Nat) : Int) := (by rw [Int.tmod_eq_emod_of_nonneg (by omega)]; omega); have hlt : x % y < y := Nat.mod_lt _ h0; have HGN : Sl (Nat.gcd y (x % y) = Nat.gcd a b) := ⟨by rw [← HG.out.1, Nat.gcd_comm y, ← Nat.gcd_rec, Nat.gcd_comm]⟩; generalize x % y = r at *
      go_wp2_with fail
      go_quiet (fail)
      go_wp2_with fail; obtain ⟨m, hm⟩ := HG.out.2; refine ⟨⟨y, r, rfl, rfl, hy, by omega, ⟨HGN.out, m + nq, by rw [hm]; simp⟩⟩, by simp [RowKit.intOf]; omega⟩
def vF (num den : Int) : Prop := (1 ≤ den ∧ den ≤ 15) ∧ (1 ≤ num ∧ num ≤ 64 * den) ∧ Nat.gcd num.natAbs den.natAbs = 1
instance (a b : Int) : Decidable (vF a b) := inferInstanceAs (Decidable (_ ∧ _ ∧ _))
theorem wvalid_any (num den : Int) (w : World) : Calls Tryz.prog 199 #[.agg #[.int .i64 num, .int .i64 den]] w fun e w' => e = .returned (.bool (decide (vF num den))) ∧ Below w.heap.size w w' := by
  have hu : Below w.heap.size w (w.alloc (.cells #[.int .i64 num, .int .i64 den] 87)) := (Below.refl _ _).alloc (Nat.le_refl _) _; have HU : Sl _ := ⟨hu⟩; clear hu; obtain ⟨r, hr⟩ : ∃ r, decide (vF num den) = r := ⟨_, rfl⟩; rw [hr]; have HR : Sl _ := ⟨hr⟩; clear hr
  by_cases hok : (1 ≤ den ∧ den ≤ 15) ∧ (1 ≤ num ∧ num ≤ 64 * den)
  · obtain ⟨⟨h1, h2⟩, h3, h4⟩ := hok; obtain ⟨n, rfl⟩ := Int.eq_ofNat_of_zero_le (show 0 ≤ num by omega); obtain ⟨d, rfl⟩ := Int.eq_ofNat_of_zero_le (show 0 ≤ den by omega); have HG : Sl _ := ⟨fun W : World => wgcd_any n d W (by omega) (by omega)⟩
    have HV : Sl (r = (((Nat.gcd n d : Nat) : Int) == 1)) := ⟨by
      rw [← HR.out, Bool.eq_iff_iff, decide_eq_true_iff, beq_iff_eq]; unfold vF; simp only [Int.natAbs_natCast]
      omega⟩
    have hw : IntKind.i64.wrap (64 * (d : Int)) = 64 * (d : Int) := (by rw [IntKind.wrap_i64]; omega); have g1 : ¬ (d : Int) < 1 := (by omega); have g2 : ¬ 15 < (d : Int) := (by omega); have g3 : ¬ (n : Int) < 1 := (by omega); have g4 : ¬ 64 * (d : Int) < (n : Int) := (by omega); generalize Nat.gcd n d = g at *
    go_enter Tryz.func199, Tryz.ntmps199; go_wp2_with fail; refine (HG.out _).mono ?_; rintro e w1 ⟨rfl, m, rfl⟩; go_wp2_with fail; go_ret; exact ⟨by rw [HV.out]; rfl, below_drewN HU.out m⟩
  · have HV : Sl (r = false) := ⟨by
      rw [← HR.out, decide_eq_false_iff_not]; unfold vF; intro h
      exact hok ⟨h.1, h.2.1⟩⟩
    have hcase : den < 1 ∨ (¬ den < 1 ∧ 15 < den) ∨ (¬ den < 1 ∧ ¬ 15 < den ∧ num < 1) ∨ (¬ den < 1 ∧ ¬ 15 < den ∧ ¬ num < 1 ∧ 64 * den < num) := (by omega); clear hok HR; rcases hcase with h1 | ⟨h1, h2⟩ | ⟨h1, h2, h3⟩ | ⟨h1, h2, h3, h4⟩
    · have d1 : decide (1 ≤ den) = false := decide_eq_false (by omega); go_enter Tryz.func199, Tryz.ntmps199; go_wp2_with fail; go_ret; exact ⟨by rw [HV.out]; rfl, HU.out⟩
    · have d1 : decide (1 ≤ den) = true := decide_eq_true (by omega); have d2 : decide (den ≤ 15) = false := decide_eq_false (by omega); go_enter Tryz.func199, Tryz.ntmps199; go_wp2_with fail; go_ret; exact ⟨by rw [HV.out]; rfl, HU.out⟩
    · have d1 : decide (1 ≤ den) = true := decide_eq_true (by omega); have d2 : decide (den ≤ 15) = true := decide_eq_true (by omega); have d3 : decide (1 ≤ num) = false := decide_eq_false (by omega); go_enter Tryz.func199, Tryz.ntmps199; go_wp2_with fail; go_ret; exact ⟨by rw [HV.out]; rfl, HU.out⟩
    · have d1 : decide (1 ≤ den) = true := decide_eq_true (by omega); have d2 : decide (den ≤ 15) = true := decide_eq_true (by omega); have d3 : decide (1 ≤ num) = true := decide_eq_true (by omega); have hw : IntKind.i64.wrap (64 * den) = 64 * den := (by rw [IntKind.wrap_i64]; omega); have d4 : decide (num ≤ 64 * den) = false := decide_eq_false (by omega); go_enter Tryz.func199, Tryz.ntmps199; go_wp2_with fail; go_ret; exact ⟨by rw [HV.out]; rfl, HU.out⟩
def tx (u : Nat) : ByteArray := ⟨(Lib.decDigits u).toArray⟩
theorem tx_size {u : Nat} (h : u < 100) : (tx u).size ≤ 2 := by
  unfold tx; have e : (⟨(Lib.decDigits u).toArray⟩ : ByteArray).size = (Lib.decDigits u).length := (by simp [ByteArray.size]); rw [e, Lib.decDigits]
  split
  · simp
  · rw [Lib.decDigits, dif_pos (by omega)]; simp
theorem itoa_tx {u : Nat} (h : u < 100) (W : World) : Calls Tryz.prog 200 #[.int .i64 u] W fun e w' => e = .returned (.string (tx u)) ∧ w' = W := Tryz.strconv_Itoa_small u h W
theorem feet_any (num den : Int) (w : World) : Calls Tryz.prog 181 #[.agg #[.int .i64 num, .int .i64 den]] w fun e w' => (∃ s, e = .returned (.tuple #[.string s, .int .i64 (if vF num den then 0 else 2)])) ∧ Below w.heap.size w w' := by
  have hu : Below w.heap.size w (w.alloc (.cells #[.int .i64 num, .int .i64 den] 87)) := (Below.refl _ _).alloc (Nat.le_refl _) _; have X0 := Blk.new w 87 #[.int .i64 num, .int .i64 den]; have HV : Sl _ := ⟨fun W : World => wvalid_any num den W⟩
  by_cases hv : vF num den
  · rw [if_pos hv]; rw [decide_eq_true hv] at HV; obtain ⟨⟨h1, h2⟩, ⟨h3, h4⟩, _⟩ := hv; obtain ⟨n, rfl⟩ := Int.eq_ofNat_of_zero_le (show 0 ≤ num by omega); obtain ⟨d, rfl⟩ := Int.eq_ofNat_of_zero_le (show 0 ≤ den by omega); have hd0 : ¬ (d : Int) = 0 := (by omega); have hq : (n : Int).tdiv (d : Int) = ((n / d : Nat) : Int) := (by rw [Int.tdiv_eq_ediv_of_nonneg (by omega)]; rfl); have hr : (n : Int).tmod (d : Int) = ((n % d : Nat) : Int) := (by rw [Int.tmod_eq_emod_of_nonneg (by omega)]; rfl)
    have hq64 : n / d < 100 := by
      have : n / d ≤ 64 := (by rw [Nat.div_le_iff_le_mul_add_pred (by omega)]; omega); omega
    have hr15 : n % d < 100 := (by have := Nat.mod_lt n (show d > 0 by omega); omega); have hd15 : d < 100 := (by omega); obtain ⟨q, hqe⟩ : ∃ q, n / d = q := ⟨_, rfl⟩; obtain ⟨r, hre⟩ : ∃ r, n % d = r := ⟨_, rfl⟩; rw [hqe] at hq hq64; rw [hre] at hr hr15; have HIq : Sl _ := ⟨fun W : World => itoa_tx hq64 W⟩; have HIr : Sl _ := ⟨fun W : World => itoa_tx hr15 W⟩; have HId : Sl _ := ⟨fun W : World => itoa_tx hd15 W⟩; have sq := tx_size hq64; have sr := tx_size hr15; have sd := tx_size hd15; generalize tx q = tq at *
    generalize tx r = tr at *
    generalize tx d = td at *
    clear hqe hre h3 h4 h1 h2; go_enter Tryz.func181, Tryz.ntmps181; go_wp2_with fail; generalize w.alloc (.cells #[.int .i64 (n : Int), .int .i64 (d : Int)] 87) = w0 at *
    refine (HV.out w0).mono ?_; rintro e w1 ⟨rfl, hb⟩; have u1 := hu.trans (hb.mono hu.size); have X1 := X0.below hb X0.lt; have x0 := X1.cell 0; have x1 := X1.cell 1; simp at x0 x1; clear hu hb X0 HV; go_wp2_with fail
    go_quiet (fail)
    have u2 := below_drewN u1 nq; have X2 : Blk (w1.drewN nq) w.heap.size _ _ := X1.drewN nq; clear u1 X1 x0 x1; generalize w1.drewN nq = w2 at *
    have x0 := X2.cell 0; have x1 := X2.cell 1; simp at x0 x1; go_wp2_with fail; have hd2 : RowKit.Below w.heap.size w w2.drew := below_drewN u2 1; have xx1 : w2.drew.cell? ⟨w.heap.size, 1, none⟩ = some (.int .i64 d) := x1
    go_region_with (first
      | (go_at_call 200; (with_reducible refine (HIr.out _).mono ?_); rintro e w3 ⟨rfl, rfl⟩)
      | (go_at_call 200; (with_reducible refine (HId.out _).mono ?_); rintro e w4 ⟨rfl, rfl⟩)
      | fail)
    all_goals (
      clear x0 x1 X2 u2; generalize w2.drew = w5 at *
      by_cases hd1 : (d : Int) = 1
      · have hb1 : ((d : Int) == 1) = true := (by rw [hd1]; rfl); go_wp2_with fail; refine (HIq.out _).mono ?_; rintro e w6 ⟨rfl, rfl⟩; go_wp2_with fail; go_ret2; exact ⟨⟨_, rfl⟩, hd2⟩
      · have hb1 : ((d : Int) == 1) = false := (by rw [beq_eq_false_iff_ne]; exact hd1)
        by_cases hq0 : (q : Int) = 0
        · have hb2 : ((q : Int) == 0) = true := (by rw [hq0]; rfl); go_wp2_with fail; go_ret2; exact ⟨⟨_, rfl⟩, hd2⟩
        · have hb2 : ((q : Int) == 0) = false := (by rw [beq_eq_false_iff_ne]; exact hq0); go_wp2_with fail; refine (HIq.out _).mono ?_; rintro e w6 ⟨rfl, rfl⟩; go_wp2_with fail; go_ret2
          exact ⟨⟨_, rfl⟩, hd2⟩)
  · rw [if_neg hv]; rw [decide_eq_false hv] at HV; have HU : Sl _ := ⟨hu⟩; clear hv hu X0; go_enter Tryz.func181, Tryz.ntmps181; go_wp2_with fail; refine (HV.out _).mono ?_; rintro e w1 ⟨rfl, hb⟩; go_wp2_with fail; go_ret2; exact ⟨⟨_, rfl⟩, HU.out.trans (hb.mono HU.out.size)⟩
theorem footage_any (num den : Int) (w : World) : Calls Tryz.prog 139 #[.agg #[.int .i64 num, .int .i64 den]] w fun e w' => e = .returned (.bool (decide (vF num den))) ∧ Below w.heap.size w w' := by
  have hu : Below w.heap.size w (w.alloc (.cells #[.int .i64 num, .int .i64 den] 87)) := (Below.refl _ _).alloc (Nat.le_refl _) _; have HU : Sl _ := ⟨hu⟩; have HF : Sl _ := ⟨fun W : World => feet_any num den W⟩; clear hu
  by_cases hv : vF num den
  · have HV : Sl _ := ⟨decide_eq_true hv⟩; simp only [if_pos hv] at HF; rw [HV.out]; clear hv; go_enter Tryz.func139, Tryz.ntmps139; go_wp2_with fail; refine (HF.out _).mono ?_; rintro e w1 ⟨⟨s, rfl⟩, hb⟩; have HB : Sl _ := ⟨HU.out.trans (hb.mono HU.out.size)⟩; clear hb; go_wp2_with fail; go_ret; exact ⟨rfl, HB.out⟩
  · have HV : Sl _ := ⟨decide_eq_false hv⟩; simp only [if_neg hv] at HF; rw [HV.out]; clear hv; go_enter Tryz.func139, Tryz.ntmps139; go_wp2_with fail; refine (HF.out _).mono ?_; rintro e w1 ⟨⟨s, rfl⟩, hb⟩; have HB : Sl _ := ⟨HU.out.trans (hb.mono HU.out.size)⟩; clear hb; go_wp2_with fail; go_ret; exact ⟨rfl, HB.out⟩
structure Mv (g : Nat) (w w' : World) : Prop where
  os : w'.os = w.os
  tape : w'.tape = w.tape
  output : w'.output = w.output
  size : w.heap.size ≤ w'.heap.size
  block : ∀ k, k < w.heap.size → k ≠ g → w'.heap[k]? = w.heap[k]?
theorem Mv.of_below {w w' : World} (h : Below w.heap.size w w') : Mv w.heap.size w w' := ⟨h.os, h.tape, h.output, h.size, fun k hk _ => h.block k hk⟩
theorem Mv.refl (g : Nat) (w : World) : Mv g w w := ⟨rfl, rfl, rfl, Nat.le_refl _, fun _ _ _ => rfl⟩
theorem Mv.drewN {g : Nat} {w w' : World} (h : Mv g w w') (n : Nat) : Mv g w (w'.drewN n) := ⟨h.os, h.tape, h.output, h.size, h.block⟩
theorem Blk.mv {w w' : World} {b g : Nat} {t : TypeId} {cs : Array Value} (h : Blk w b t cs) (hm : Mv g w w') (hne : b ≠ g) : Blk w' b t cs := (hm.block b h.lt hne).trans h
theorem below_mv {B g : Nat} {w0 w w' : World} (h : Below B w0 w) (hm : Mv g w w') (hg : B ≤ g) (hB : B ≤ w.heap.size) : Below B w0 w' :=
  ⟨hm.os.trans h.os, hm.tape.trans h.tape, hm.output.trans h.output, Nat.le_trans h.size hm.size, fun k hk => (hm.block k (by omega) (by omega)).trans (h.block k hk)⟩
theorem setCells_os (g : Nat) : ∀ (vs : List Value) (o : Nat) (w : World), (w.setCells g o vs).os = w.os ∧ (w.setCells g o vs).tape = w.tape ∧ (w.setCells g o vs).output = w.output ∧ (w.setCells g o vs).heap.size = w.heap.size ∧ ∀ k, k ≠ g → (w.setCells g o vs).heap[k]? = w.heap[k]?
  | [], _, w => ⟨rfl, rfl, rfl, rfl, fun _ _ => rfl⟩
  | v :: r, o, w => by
    rw [World.setCells]; obtain ⟨h1, h2, h3, h4, h5⟩ := setCells_os g r (o + 1) (w.setCell ⟨g, o, none⟩ v); refine ⟨h1.trans rfl, h2.trans rfl, h3.trans rfl, h4.trans (by simp [World.setCell]), fun k hk => (h5 k hk).trans ?_⟩; exact Below.heap_setCell w ⟨g, o, none⟩ v k hk
theorem Mv.setCells (w : World) (g o : Nat) (vs : List Value) : Mv g w (w.setCells g o vs) := by
  obtain ⟨h1, h2, h3, h4, h5⟩ := setCells_os g vs o w; exact ⟨h1, h2, h3, Nat.le_of_eq h4.symm, fun k _ hk => h5 k hk⟩
theorem setCells_size (w : World) (g o : Nat) (vs : List Value) : (w.setCells g o vs).heap.size = w.heap.size := (setCells_os g vs o w).2.2.2.1
def putA (cs : Array Value) : Nat → List Value → Array Value
  | _, [] => cs
  | o, v :: r => putA (cs.setIfInBounds o v) (o + 1) r
theorem Blk.setCells {w : World} {g : Nat} {t : TypeId} : ∀ (vs : List Value) (o : Nat) (w : World) (cs : Array Value), Blk w g t cs → Blk (w.setCells g o vs) g t (putA cs o vs)
  | [], _, _, _, h => h
  | v :: r, o, w, cs, h => by
    rw [World.setCells, putA]; exact Blk.setCells (w := w) r (o + 1) _ _ (h.set_ o v)
theorem putA_size : ∀ (vs : List Value) (cs : Array Value) (o : Nat), (putA cs o vs).size = cs.size
  | [], _, _ => rfl
  | v :: r, cs, o => by rw [putA, putA_size r]; simp
theorem putA_get : ∀ (vs : List Value) (cs : Array Value) (o j : Nat), o + vs.length ≤ cs.size → (putA cs o vs)[j]? = if o ≤ j ∧ j < o + vs.length then vs[j - o]? else cs[j]?
  | [], cs, o, j, _ => by
    rw [putA, if_neg (by rw [List.length_nil]; omega)]
  | v :: r, cs, o, j, h => by
    rw [List.length_cons] at h; rw [putA, putA_get r _ (o + 1) j (by simp; omega), List.length_cons]
    by_cases h1 : o + 1 ≤ j ∧ j < o + 1 + r.length
    · rw [if_pos h1, if_pos (by omega), show j - o = (j - (o + 1)) + 1 by omega, List.getElem?_cons_succ]
    · rw [if_neg h1]
      by_cases h2 : j = o
      · subst h2; rw [if_pos (by omega), Nat.sub_self, List.getElem?_cons_zero, Array.getElem?_setIfInBounds_self_of_lt (by omega)]
      · rw [if_neg (by omega), Array.getElem?_setIfInBounds_ne (by omega)]
theorem putA_all (cs vs : Array Value) (h : vs.size = cs.size) : putA cs 0 vs.toList = vs := by
  have hl : vs.toList.length = vs.size := (by simp); apply Array.ext_getElem?; intro j; rw [putA_get _ _ _ _ (by omega)]
  by_cases hj : j < vs.size
  · rw [if_pos (by omega), Nat.sub_zero, Array.getElem?_toList]
  · rw [if_neg (by omega), Array.getElem?_eq_none (by omega), Array.getElem?_eq_none (by omega)]
section
variable {P : Program} {ops : Array Oper} {rest : List Oper} {op : Oper} {a : Act} {w : World} {Q : Exit → Act → World → Prop}
theorem wpList_load_whole (hgd : op.guard = none) (ty : TypeId) (x : Operand) (ho : op.op = .load ty x)
    (g : Nat) (hx : a.eval x = .pointer (some ⟨g, 0, none⟩)) (t : TypeId) (cs : Array Value) (d : TypeDesc) (hB : Blk w g t cs)
    (hu : P.underlying ty = some d) (hd : d.isRow = true) (hi : (P.info? ty).map (·.size) = some cs.size)
    (h : wpList P ops Q rest (a.put op.dst (.agg cs)) w) : wpList P ops Q (op :: rest) a w := by
  have hr : w.rangeAt g 0 cs.toList := by
    have := World.rangeAt_of_block hB 0 cs.size; rw [Nat.zero_add, Array.extract_size] at this; exact this
  refine wpList_load_mid hgd ty x ho g 0 hx cs.toList d hr hu hd (by rw [hi]; simp) ?_; rw [Array.toArray_toList]; exact h
theorem Blk.there {g : Nat} {t : TypeId} {cs : Array Value} (h : Blk w g t cs) (o n : Nat) (hn : o + n ≤ cs.size) : w.there g o n := fun j hj => by
  refine ⟨?_, h.frozen _⟩; rw [h.cell, Array.getElem?_eq_getElem (by omega)]; rfl
theorem wpList_store_part (hgd : op.guard = none) (ty : TypeId) (x y : Operand) (ho : op.op = .store ty x y)
    (g o : Nat) (cells : Array Value) (hx : a.eval x = .pointer (some ⟨g, o, none⟩)) (hy : a.eval y = .agg cells)
    (t : TypeId) (cs cs' : Array Value) (hB : Blk w g t cs) (hn : o + cells.size ≤ cs.size) (hp : putA cs o cells.toList = cs')
    (hi : (P.info? ty).map (·.size) = some cells.size) (h1 : cells.all (·.oneCell') = true)
    (h : ∀ w', Mv g w w' → w'.heap.size = w.heap.size → Blk w' g t cs' → wpList P ops Q rest (a.put op.dst undef) w') : wpList P ops Q (op :: rest) a w := by
  refine wpList_store_mid hgd ty x y ho g o cells hx hy (hB.there o _ hn) hi h1 (h _ (Mv.setCells _ _ _ _) (setCells_size _ _ _ _) ?_); rw [← hp]; exact Blk.setCells (w := w) _ _ _ _ hB
theorem wpList_store_whole (hgd : op.guard = none) (ty : TypeId) (x y : Operand) (ho : op.op = .store ty x y)
    (g : Nat) (cells : Array Value) (hx : a.eval x = .pointer (some ⟨g, 0, none⟩)) (hy : a.eval y = .agg cells)
    (t : TypeId) (cs : Array Value) (hB : Blk w g t cs) (hn : cells.size = cs.size)
    (hi : (P.info? ty).map (·.size) = some cells.size) (h1 : cells.all (·.oneCell') = true)
    (h : ∀ w', Mv g w w' → w'.heap.size = w.heap.size → Blk w' g t cells → wpList P ops Q rest (a.put op.dst undef) w') : wpList P ops Q (op :: rest) a w :=
  wpList_store_part hgd ty x y ho g 0 cells hx hy t cs cells hB (by omega) (putA_all cs cells hn) hi h1 h
theorem wpList_alloc_new (k : Tmp) (hdst : op.dst = some k) (hgd : op.guard = none) (ty : TypeId) (ho : op.op = .alloc ty) (cells : Array Value)
    (hz : ∀ w, (Instr.alloc ty true (.tuple #[])).run P w = .ok (.pointer (some ⟨w.heap.size, 0, none⟩)) (w.alloc (.cells cells ty)))
    (h : ∀ w' g, g = w.heap.size → Mv w.heap.size w w' → w'.heap.size = g + 1 → Blk w' g ty cells → wpList P ops Q rest (a.put op.dst (.pointer (some ⟨g, 0, none⟩))) w') : wpList P ops Q (op :: rest) a w := by
  refine wpList_plain hgd fun K hK => ?_
  have hrun : (execOp a.eval op).run P w = .ok (.value (.pointer (some ⟨w.heap.size, 0, none⟩))) (w.alloc (.cells cells ty)) := by
    unfold execOp; simp only [ho, Sem.run_bind, hz, Result.andThen_ok, Sem.run_pure]
  unfold Oper.wp; rw [hrun, Oper.upon_value]; exact hK _ _ (h _ _ rfl (Mv.of_below ((Below.refl _ _).alloc (Nat.le_refl _) _)) (by simp) (Blk.new w ty cells))
theorem wpList_box_new (k : Tmp) (hdst : op.dst = some k) (hgd : op.guard = none) (ty : TypeId) (x : Operand) (ho : op.op = .box ty x) (cells : Array Value) (hx : a.eval x = .agg cells)
    (hz : ∀ w, (Instr.box ty (.agg cells)).run P w = .ok (.pointer (some ⟨w.heap.size, 0, none⟩)) (w.alloc (.cells cells ty)))
    (h : ∀ w' g, g = w.heap.size → Mv w.heap.size w w' → w'.heap.size = g + 1 → Blk w' g ty cells → wpList P ops Q rest (a.put op.dst (.pointer (some ⟨g, 0, none⟩))) w') : wpList P ops Q (op :: rest) a w := by
  refine wpList_plain hgd fun K hK => ?_
  have hrun : (execOp a.eval op).run P w = .ok (.value (.pointer (some ⟨w.heap.size, 0, none⟩))) (w.alloc (.cells cells ty)) := by
    unfold execOp; simp only [ho, hx, Sem.run_bind, hz, Result.andThen_ok, Sem.run_pure]
  unfold Oper.wp; rw [hrun, Oper.upon_value]; exact hK _ _ (h _ _ rfl (Mv.of_below ((Below.refl _ _).alloc (Nat.le_refl _) _)) (by simp) (Blk.new w ty cells))
end
theorem Mv.trans {g : Nat} {a b c : World} (h : Mv g a b) (k : Mv g b c) : Mv g a c :=
  ⟨k.os.trans h.os, k.tape.trans h.tape, k.output.trans h.output, Nat.le_trans h.size k.size, fun i hi hne => (k.block i (by have := h.size; omega) hne).trans (h.block i hi hne)⟩
theorem Mv.below {g : Nat} {a b : World} (h : Below a.heap.size a b) : Mv g a b := ⟨h.os, h.tape, h.output, h.size, fun k hk _ => h.block k hk⟩
theorem Mv.drew (g : Nat) (w : World) : Mv g w w.drew := ⟨rfl, rfl, rfl, Nat.le_refl _, fun _ _ _ => rfl⟩
section
variable {P : Program} {ops : Array Oper} {Q : Exit → Act → World → Prop} {md : Region.Mode} {S : World → Prop}
theorem wpAnyH_one (i : Nat) {oi : Oper} {fuel : Nat} {listed : Array Bool} {a : Act} {w : World} (hi0 : ops.toList[i]? = some oi) (hr : Region.ready md ops listed = [i]) (hg : oi.guard = none)
    (h : ∀ K' : Act → World → Prop, Shut (∀ a w, S w → (S w → wpAnyH P md ops Q S fuel (listed.setIfInBounds i true) a w) → K' a w) → Oper.wp P oi a w K' Q) : wpAnyH P md ops Q S (fuel + 1) listed a w :=
  have hi : ops[i]? = some oi := (by rw [← Array.getElem?_toList]; exact hi0)
  wpAnyH_ready hr (by simp) (AllReadyH.cons hi (fun K' hK => by
    have hw : Region.wanted oi (yielded ops a.tmps) = true := (by simp [Region.wanted, hg]); rw [if_pos hw]
    exact h K' hK) AllReadyH.nil)
theorem wpAnyH_onew (i : Nat) {oi : Oper} {fuel : Nat} {listed : Array Bool} {a : Act} {w : World} (hi0 : ops.toList[i]? = some oi) (hr : Region.ready md ops listed = [i]) (hw : Region.wanted oi (yielded ops a.tmps) = true)
    (h : ∀ K' : Act → World → Prop, Shut (∀ a w, S w → (S w → wpAnyH P md ops Q S fuel (listed.setIfInBounds i true) a w) → K' a w) → Oper.wp P oi a w K' Q) : wpAnyH P md ops Q S (fuel + 1) listed a w :=
  have hi : ops[i]? = some oi := (by rw [← Array.getElem?_toList]; exact hi0)
  wpAnyH_ready hr (by simp) (AllReadyH.cons hi (fun K' hK => by
    rw [if_pos hw]
    exact h K' hK) AllReadyH.nil)
theorem wpAnyH_pure (i : Nat) {oi : Oper} {v : Value} {fuel : Nat} {listed : Array Bool} {a : Act} {w : World} (hi0 : ops.toList[i]? = some oi)
    (hs : Region.noSelect ops = true) (hf : Region.free md ops listed i = true) (hr : (Region.ready md ops listed).contains i = true)
    (hQ : ∀ c a w, Q (.panic c) (a.put oi.dst v) w → Q (.panic c) a w) (hg : oi.guard = none) (hy : ∀ w, (execOp a.eval oi).run P w = .ok (.value v) w) (hS : S w)
    (h : wpAnyH P md ops Q S fuel (listed.setIfInBounds i true) (a.put oi.dst v) w) : wpAnyH P md ops Q S (fuel + 1) listed a w :=
  have hi : ops[i]? = some oi := (by rw [← Array.getElem?_toList]; exact hi0)
  wpAnyH_take hi hs hf hr hQ (.inl ⟨by simp [Region.wanted, hg], fun w _ => hy w⟩) hS h
theorem wpAnyH_load (i : Nat) {oi : Oper} {fuel : Nat} {listed : Array Bool} {a : Act} {w : World} (ty : TypeId) (x : Operand) (hi0 : ops.toList[i]? = some oi) (ho : oi.op = .load ty x) (hg : oi.guard = none)
    (g o : Nat) (hx : a.eval x = .pointer (some ⟨g, o, none⟩)) (vs : Array Value) (d : TypeDesc) (hR : ∀ w, S w → w.rangeAt g o vs.toList) (hu : P.underlying ty = some d) (hd : d.isRow = true) (hz : (P.info? ty).map (·.size) = some vs.size)
    (hs : Region.noSelect ops = true) (hf : Region.free md ops listed i = true) (hr : (Region.ready md ops listed).contains i = true)
    (hQ : ∀ c a w, Q (.panic c) (a.put oi.dst (.agg vs)) w → Q (.panic c) a w) (hS : S w)
    (h : wpAnyH P md ops Q S fuel (listed.setIfInBounds i true) (a.put oi.dst (.agg vs)) w) : wpAnyH P md ops Q S (fuel + 1) listed a w := by
  have hi : ops[i]? = some oi := (by rw [← Array.getElem?_toList]; exact hi0); have hy := yieldsIf_load_mid (P := P) (ops := ops) (S := S) (op := oi) (a := a) (by simp [Region.wanted, hg]) ty x ho g o hx vs.toList d hR hu hd (by rw [hz]; simp); rw [Array.toArray_toList] at hy; exact wpAnyH_take hi hs hf hr hQ hy hS h
theorem wpAnyH_cell (i : Nat) {oi : Oper} {fuel : Nat} {listed : Array Bool} {a : Act} {w : World} {v : Value} (hi0 : ops.toList[i]? = some oi) (hg : oi.guard = none)
    (hy : ∀ w, S w → (execOp a.eval oi).run P w = .ok (.value v) w)
    (hs : Region.noSelect ops = true) (hf : Region.free md ops listed i = true) (hr : (Region.ready md ops listed).contains i = true)
    (hQ : ∀ c a w, Q (.panic c) (a.put oi.dst v) w → Q (.panic c) a w) (hS : S w)
    (h : wpAnyH P md ops Q S fuel (listed.setIfInBounds i true) (a.put oi.dst v) w) : wpAnyH P md ops Q S (fuel + 1) listed a w :=
  have hi : ops[i]? = some oi := (by rw [← Array.getElem?_toList]; exact hi0)
  wpAnyH_take hi hs hf hr hQ (.inl ⟨by simp [Region.wanted, hg], hy⟩) hS h
end
section
variable {P : Program} {op : Oper} {a : Act} {w : World} {K : Act → World → Prop} {Q : Exit → Act → World → Prop}
end
theorem own_mv {w w' : World} {g base size n : Nat} {e : TypeId} {v : Value} {xs : List Value} (h : w.ownsRow base e size v n xs) (hm : Mv g w w') (hne : ∀ k, v.ownBlock = some k → k ≠ g) : w'.ownsRow base e size v n xs := by
  refine ⟨h.1, ?_⟩; rcases h.2 with h0 | ⟨b, cap, cur, e1, hb, hh, h1⟩
  · exact .inl h0
  · subst e1; exact .inr ⟨b, cap, cur, rfl, hb, (hm.block b (Blk.lt (t := e) (cs := cur) hh) (hne b rfl)).trans hh, h1⟩
theorem Sl.v {g : Nat} {w0 w w' : World} (h : Sl (Below w0.heap.size w0 w)) (hm : Mv g w w') (hg : w0.heap.size ≤ g) : Sl (Below w0.heap.size w0 w') := ⟨below_mv h.out hm hg h.out.size⟩
theorem Sl.w {b g : Nat} {t : TypeId} {cs : Array Value} {w w' : World} (h : Sl (Blk w b t cs)) (hm : Mv g w w') (hne : b ≠ g) : Sl (Blk w' b t cs) := ⟨h.out.mv hm hne⟩
theorem Sl.x {b : Nat} {t : TypeId} {cs : Array Value} {w w' : World} (h : Sl (Blk w b t cs)) (hb : Below w.heap.size w w') : Sl (Blk w' b t cs) := ⟨h.out.below hb h.out.lt⟩
theorem Sl.y {w0 w w' : World} (h : Sl (Below w0.heap.size w0 w)) (hb : Below w.heap.size w w') : Sl (Below w0.heap.size w0 w') := ⟨h.out.trans (hb.mono h.out.size)⟩
theorem sS0 {α : Type} (l : List α) (i : Nat) (a : α) : l.toArray.setIfInBounds i a = (l.set i a).toArray := List.setIfInBounds_toArray ..
theorem sS1 {α : Type} (a b : α) (l : List α) : (a :: l).set 0 b = b :: l := rfl
theorem sS2 {α : Type} (a b : α) (l : List α) (n : Nat) : (a :: l).set (n + 1) b = a :: l.set n b := rfl
section
variable {P : Program} {ops : Array Oper} {Q : Exit → Act → World → Prop} {md : Region.Mode} {S : World → Prop}
theorem wpAnyH_cellg (i : Nat) {oi : Oper} {fuel : Nat} {listed : Array Bool} {a : Act} {w : World} {v : Value} (hi0 : ops.toList[i]? = some oi) (hg : Region.wanted oi (yielded ops a.tmps) = true)
    (hy : ∀ w, S w → (execOp a.eval oi).run P w = .ok (.value v) w)
    (hs : Region.noSelect ops = true) (hf : Region.free md ops listed i = true) (hr : (Region.ready md ops listed).contains i = true)
    (hQ : ∀ c a w, Q (.panic c) (a.put oi.dst v) w → Q (.panic c) a w) (hS : S w)
    (h : wpAnyH P md ops Q S fuel (listed.setIfInBounds i true) (a.put oi.dst v) w) : wpAnyH P md ops Q S (fuel + 1) listed a w :=
  have hi : ops[i]? = some oi := (by rw [← Array.getElem?_toList]; exact hi0)
  wpAnyH_take hi hs hf hr hQ (.inl ⟨hg, hy⟩) hS h
theorem wpAnyH_pureg (i : Nat) {oi : Oper} {v : Value} {fuel : Nat} {listed : Array Bool} {a : Act} {w : World} (hi0 : ops.toList[i]? = some oi)
    (hs : Region.noSelect ops = true) (hf : Region.free md ops listed i = true) (hr : (Region.ready md ops listed).contains i = true)
    (hQ : ∀ c a w, Q (.panic c) (a.put oi.dst v) w → Q (.panic c) a w) (hg : Region.wanted oi (yielded ops a.tmps) = true) (hy : ∀ w, (execOp a.eval oi).run P w = .ok (.value v) w) (hS : S w)
    (h : wpAnyH P md ops Q S fuel (listed.setIfInBounds i true) (a.put oi.dst v) w) : wpAnyH P md ops Q S (fuel + 1) listed a w :=
  have hi : ops[i]? = some oi := (by rw [← Array.getElem?_toList]; exact hi0)
  wpAnyH_take hi hs hf hr hQ (.inl ⟨hg, fun w _ => hy w⟩) hS h
theorem wpAnyH_no (i : Nat) {oi : Oper} {fuel : Nat} {listed : Array Bool} {a : Act} {w : World} (hi0 : ops.toList[i]? = some oi)
    (hs : Region.noSelect ops = true) (hf : Region.free md ops listed i = true) (hr : (Region.ready md ops listed).contains i = true)
    (hQ : ∀ c a w, Q (.panic c) (a.put oi.dst undef) w → Q (.panic c) a w) (hg : Region.wanted oi (yielded ops a.tmps) = false) (hS : S w)
    (h : wpAnyH P md ops Q S fuel (listed.setIfInBounds i true) (a.put oi.dst undef) w) : wpAnyH P md ops Q S (fuel + 1) listed a w :=
  have hi : ops[i]? = some oi := (by rw [← Array.getElem?_toList]; exact hi0)
  wpAnyH_take hi hs hf hr hQ (.inr ⟨hg, rfl⟩) hS h
end
theorem wpList_store_cell {P : Program} {ops : Array Oper} {rest : List Oper} {op : Oper} {a : Act} {w : World} {Q : Exit → Act → World → Prop} (hgd : op.guard = none) (ty : TypeId) (x y : Operand) (ho : op.op = .store ty x y)
    (g o : Nat) (v : Value) (hx : a.eval x = .pointer (some ⟨g, o, none⟩)) (hy : a.eval y = v)
    (t : TypeId) (cs cs' : Array Value) (hB : Blk w g t cs) (hn : o < cs.size) (hp : cs.setIfInBounds o v = cs')
    (hi : (P.info? ty).map (·.size) = some 1) (hv : v.cells = #[v]) (hv1 : v.oneCell' = true)
    (h : ∀ w', Mv g w w' → w'.heap.size = w.heap.size → Blk w' g t cs' → w' = w.setCell ⟨g, o, none⟩ v → wpList P ops Q rest (a.put op.dst undef) w') : wpList P ops Q (op :: rest) a w := by
  have ht := hB.there o 1 (by omega)
  have hrun : (storeVar ty ⟨g, o, none⟩ v).run P w = .ok () (w.setCells g o [v]) := by
    have := run_storeCells_cells (P := P) g o [v] 0 w (fun j hj => by simpa using (ht j (by simpa using hj)).1) (fun j hj => by simpa using (ht j (by simpa using hj)).2)
      (fun u hu => by simp at hu; subst hu; exact hv1)
    cases hq : P.info? ty with
    | none => simp [hq] at hi
    | some i =>
      have hs : i.size = 1 := (by simpa [hq] using hi); simp only [Nat.add_zero] at this; simp [storeVar, sizeOf, typeInfo, hq, hv, hs, this]
  refine wpList_plain hgd fun _ hK => ?_
  unfold Oper.wp execOp; simp only [ho, hx, hy, Instr.storeAt, Instr.sureAddr, Sem.run_bind, Sem.run_pure, Result.andThen_ok, hrun]; refine hK _ _ (h _ (Mv.setCells _ _ _ _) (setCells_size _ _ _ _) ?_ rfl); rw [← hp]; exact Blk.setCells (w := w) [v] o _ _ hB
theorem Mv.of_grown {w w' : World} {row : Option Nat} {g : Nat} (h : w.grownBy w' row) (hr : ∀ k, row = some k → k = g) : Mv g w w' := by
  obtain ⟨h1, h2, h3, h4, h5⟩ := h; exact ⟨h1, h2, h3, h4, fun k hk hne => h5 k hk (fun e => hne (hr k e.symm))⟩
theorem flG_get {α : Type} (f : α → List Value) (sz : Nat) (hf : ∀ p, (f p).length = sz) : ∀ (l : List α) (i : Nat) (p : α) (t : Nat), l[i]? = some p → t < sz → (l.flatMap f)[i * sz + t]? = (f p)[t]?
  | [], i, p, t, h, _ => by cases h
  | y :: l, 0, p, t, h, ht => by
    have : y = p := (by simpa using h); subst this; rw [Nat.zero_mul, Nat.zero_add, List.flatMap_cons, List.getElem?_append_left (by rw [hf]; exact ht)]
  | y :: l, i+1, p, t, h, ht => by
    have h1 : l[i]? = some p := (by simpa using h); rw [List.flatMap_cons, List.getElem?_append_right (by rw [hf, Nat.succ_mul]; omega), hf, show (i + 1) * sz + t - sz = i * sz + t by rw [Nat.succ_mul]; omega]; exact flG_get f sz hf l i p t h1 ht
theorem flG_len {α : Type} (f : α → List Value) (sz : Nat) (hf : ∀ p, (f p).length = sz) : ∀ l : List α, (l.flatMap f).length = l.length * sz
  | [] => by simp
  | y :: l => by rw [List.flatMap_cons, List.length_append, flG_len f sz hf l, hf, List.length_cons, Nat.succ_mul]; omega
structure RowG {α : Type} (w : World) (A : Option Addr) (n sz : Nat) (f : α → List Value) (l : List α) : Prop where
  len : l.length = n
  rd : Reads w w.heap.size sz A n (l.flatMap f)
  fix : ∀ p, (f p).length = sz
theorem RowG.below {α : Type} {w w' : World} {A : Option Addr} {n sz : Nat} {f : α → List Value} {l : List α} (h : RowG w A n sz f l) (hb : Below w.heap.size w w') : RowG w' A n sz f l := ⟨h.len, (h.rd.below hb).more hb.size, h.fix⟩
theorem RowG.nil {α : Type} (w : World) (A : Option Addr) (sz : Nat) (f : α → List Value) (hf : ∀ p, (f p).length = sz) : RowG w A 0 sz f [] := ⟨rfl, ⟨by simp, fun h => absurd h (by omega)⟩, hf⟩
theorem RowG.at_ {α : Type} {w : World} {A : Option Addr} {n sz : Nat} {f : α → List Value} {l : List α} (h : RowG w A n sz f l) (hsz : 0 < sz) {i : Nat} (hi : i < n) :
    ∃ gb o p, A = some ⟨gb, o, none⟩ ∧ gb < w.heap.size ∧ l[i]? = some p ∧ w.rangeAt gb (o + i * sz) (f p) := by
  obtain ⟨ad, e, hb, hc⟩ := h.rd.2 (by omega); have hl := h.len
  have key : ∀ (t : Nat) (u : Value), (f (l[i]'(by omega)))[t]? = some u → w.cell? (ad.add (i * sz + t)) = some u := fun t u ht => by
    have htl : t < sz := by
      rcases Nat.lt_or_ge t sz with h1 | h1
      · exact h1
      · rw [List.getElem?_eq_none (by rw [h.fix]; exact h1)] at ht; cases ht
    refine hc _ _ ?_; rw [flG_get f sz h.fix l i _ t (List.getElem?_eq_getElem (by omega)) htl]; exact ht
  have h0 : ∃ u, (l.flatMap f)[0]? = some u := ⟨_, List.getElem?_eq_getElem (by rw [flG_len f sz h.fix]; exact Nat.mul_pos (by omega) hsz)⟩; obtain ⟨u0, h0⟩ := h0; have c0 := hc 0 u0 h0; obtain ⟨gb, o, sp⟩ := ad
  have hsp : sp = none := by
    cases sp with
    | none => rfl
    | some s =>
      have e : (⟨gb, o, some s⟩ : Addr).add 0 = ⟨gb, o, some s⟩ := (by simp [Addr.add]); rw [e] at c0; unfold World.cell? at c0
      split at c0
      · simp at c0
      · cases c0
  subst hsp; refine ⟨gb, o, l[i]'(by omega), e, hb, List.getElem?_eq_getElem (by omega), fun t u ht => ?_⟩; have := key t u ht; rw [Addr.add_mid] at this; rw [show o + i * sz + t = o + (i * sz + t) by omega]; exact this
structure DvV where
  nm : ByteArray
  lo : Int
  hi : Int
def DvV.cells (x : DvV) : List Value := [.string x.nm, .int .i64 x.lo, .int .i64 x.hi]
structure RnV where
  nm : ByteArray
  kd : Int
  fn : Int
  fd : Int
  lo : Int
  ct : Int
def RnV.cells (x : RnV) : List Value := [.string x.nm, .int .i64 x.kd, .int .i64 x.fn, .int .i64 x.fd, .int .i64 x.lo, .int .i64 x.ct]
structure PrV where
  rk : Int
  sh : Int
  lo : Int
  hi : Int
def PrV.cells (x : PrV) : List Value := [.int .i64 x.rk, .int .i64 x.sh, .int .i64 x.lo, .int .i64 x.hi]
structure SpV where
  nm : ByteArray
  dv : Int
  fn : Int
  fd : Int
  A : Option Addr
  n : Nat
  c : Nat
  ps : List PrV
def SpV.cells (x : SpV) : List Value := [.string x.nm, .int .i64 x.dv, .int .i64 x.fn, .int .i64 x.fd, .slice x.A x.n x.c]
structure CpV where
  nm : ByteArray
  fr : Int
  tt : Int
  sh : Int
  on : Int
  th : Bool
def CpV.cells (x : CpV) : List Value := [.string x.nm, .int .i64 x.fr, .int .i64 x.tt, .int .i64 x.sh, .int .i64 x.on, .bool x.th]
structure SpO where
  A1 : Option Addr
  n1 : Nat
  c1 : Nat
  ds : List DvV
  A2 : Option Addr
  n2 : Nat
  c2 : Nat
  rs : List RnV
  A3 : Option Addr
  n3 : Nat
  c3 : Nat
  ss : List SpV
  A4 : Option Addr
  n4 : Nat
  c4 : Nat
  cs : List CpV
def SpO.cells (o : SpO) : List Value := [.slice o.A1 o.n1 o.c1, .slice o.A2 o.n2 o.c2, .slice o.A3 o.n3 o.c3, .slice o.A4 o.n4 o.c4]
structure SpM (w : World) (o : SpO) : Prop where
  d : RowG w o.A1 o.n1 3 DvV.cells o.ds
  r : RowG w o.A2 o.n2 6 RnV.cells o.rs
  s : RowG w o.A3 o.n3 5 SpV.cells o.ss
  c : RowG w o.A4 o.n4 6 CpV.cells o.cs
  p : ∀ x ∈ o.ss, RowG w x.A x.n 4 PrV.cells x.ps
theorem SpM.below {w w' : World} {o : SpO} (h : SpM w o) (hb : Below w.heap.size w w') : SpM w' o := ⟨h.d.below hb, h.r.below hb, h.s.below hb, h.c.below hb, fun x hx => (h.p x hx).below hb⟩
structure SpF (o : SpO) : Prop where
  cap : (o.n1 ≤ o.c1 ∧ o.c1 ≤ maxLen) ∧ (o.n2 ≤ o.c2 ∧ o.c2 ≤ maxLen) ∧ (o.n3 ≤ o.c3 ∧ o.c3 ≤ maxLen) ∧ (o.n4 ≤ o.c4 ∧ o.c4 ≤ maxLen)
  d : ∀ x ∈ o.ds, x.nm.size ≤ maxLen ∧ i64 x.lo ∧ i64 x.hi
  r : ∀ x ∈ o.rs, x.nm.size ≤ maxLen ∧ i64 x.kd ∧ i64 x.fn ∧ i64 x.fd ∧ i64 x.lo ∧ i64 x.ct
  s : ∀ x ∈ o.ss, x.nm.size ≤ maxLen ∧ i64 x.dv ∧ i64 x.fn ∧ i64 x.fd ∧ (x.n ≤ x.c ∧ x.c ≤ maxLen) ∧ ∀ p ∈ x.ps, i64 p.rk ∧ i64 p.sh ∧ i64 p.lo ∧ i64 p.hi
  c : ∀ x ∈ o.cs, x.nm.size ≤ maxLen ∧ i64 x.fr ∧ i64 x.tt ∧ i64 x.sh ∧ i64 x.on
abbrev Keys := List (List UInt8)
def wiB (a b c : Int) : Bool := decide (b ≤ a) && decide (a ≤ c)
def nmdE (l : Keys) (k nm : ByteArray) : Int := if nmB nm = true then (if (keyN k nm).data.toList ∈ l then 8 else 0) else 6
def nmdL (l : Keys) (k nm : ByteArray) : Keys := if nmB nm = true ∧ (keyN k nm).data.toList ∉ l then (keyN k nm).data.toList :: l else l
def kDv : ByteArray := ⟨#[100, 105, 118, 105, 115, 105, 111, 110]⟩
def kRn : ByteArray := ⟨#[114, 97, 110, 107]⟩
def kCp : ByteArray := ⟨#[99, 111, 117, 112, 108, 101, 114]⟩
def kSt (d : Int) : ByteArray := ⟨#[115, 116, 111, 112, 32]⟩ ++ ⟨(Lib.decDigits d.toNat).toArray⟩
def divE (l : Keys) (x : DvV) : Int := if nmdE l kDv x.nm = 0 then (if wiB x.lo 0 127 && wiB x.hi x.lo (min 127 (x.lo + 60)) then 0 else 7) else nmdE l kDv x.nm
def divL (l : Keys) (x : DvV) : Keys := nmdL l kDv x.nm
def rnkE (l : Keys) (x : RnV) : Int := if nmdE l kRn x.nm = 0 then (if wiB x.kd 1 4 && decide (vF x.fn x.fd) then (if wiB x.ct 1 97 && wiB x.lo 0 (128 - x.ct) then 0 else 7) else 2) else nmdE l kRn x.nm
def rnkL (l : Keys) (x : RnV) : Keys := nmdL l kRn x.nm
def stpE (nd : Nat) (l : Keys) (x : SpV) : Int :=
  if nmB x.nm = false then 6 else if wiB x.dv 0 ((nd : Int) - 1) = false then 4 else if nmdE l (kSt x.dv) x.nm = 0 then (if decide (vF x.fn x.fd) = false ∨ x.n = 0 then 2 else if 12 < x.n then 3 else 0) else nmdE l (kSt x.dv) x.nm
def stpL (nd : Nat) (l : Keys) (x : SpV) : Keys := if nmB x.nm = false then l else if wiB x.dv 0 ((nd : Int) - 1) = false then l else nmdL l (kSt x.dv) x.nm
def rn0 : RnV := ⟨⟨#[]⟩, 0, 0, 0, 0, 0⟩
def dv0 : DvV := ⟨⟨#[]⟩, 0, 0⟩
def prtE (rs : List RnV) (d : DvV) (p : PrV) : Int :=
  if wiB p.rk 0 ((rs.length : Int) - 1) = false then 4 else if wiB p.lo d.lo d.hi && (wiB p.hi p.lo d.hi && wiB p.sh (-96) 96) then
    (if p.lo + p.sh < (rs[p.rk.toNat]?.getD rn0).lo ∨ (rs[p.rk.toNat]?.getD rn0).lo + (rs[p.rk.toNat]?.getD rn0).ct ≤ p.hi + p.sh then 4 else 0) else 7
def cplE (nd : Nat) (l : Keys) (x : CpV) : Int :=
  if nmdE l kCp x.nm = 0 then (if wiB x.fr 0 ((nd : Int) - 1) && wiB x.tt 0 ((nd : Int) - 1) then
    (if ((x.sh == -12) || ((x.sh == 12) || ((x.sh == 0) && (x.fr != x.tt)))) && (wiB x.on 0 2 && !(x.th && (x.on != 0))) then 0 else 2) else 4) else nmdE l kCp x.nm
def cplL (l : Keys) (x : CpV) : Keys := nmdL l kCp x.nm
def runE {α : Type} (f : Keys → α → Int) (g : Keys → α → Keys) : List α → Keys → Int × Keys
  | [], l => (0, l)
  | x :: r, l => if f l x = 0 then runE f g r (g l x) else (f l x, g l x)
def stpsE (o : SpO) (l : Keys) (x : SpV) : Int :=
  if stpE o.n1 l x = 0 then (runE (fun _ p => prtE o.rs (o.ds[x.dv.toNat]?.getD dv0) p) (fun l _ => l) x.ps l).1 else stpE o.n1 l x
def specE (o : SpO) : Int :=
  if 6 < o.n1 ∨ 40 < o.n2 ∨ 80 < o.n3 ∨ 24 < o.n4 then 3
  else let a := runE divE divL o.ds []
    if a.1 = 0 then
      let b := runE rnkE rnkL o.rs a.2
      if b.1 = 0 then
        let c := runE (stpsE o) (stpL o.n1) o.ss b.2
        if c.1 = 0 then (runE (cplE o.n1) cplL o.cs c.2).1 else c.1
      else b.1
    else a.1
theorem nmdL_len (l : Keys) (k nm : ByteArray) : (nmdL l k nm).length ≤ l.length + 1 := by
  unfold nmdL
  split
  · exact Nat.le_refl _
  · omega
theorem stpL_len (nd : Nat) (l : Keys) (x : SpV) : (stpL nd l x).length ≤ l.length + 1 := by
  unfold stpL
  split
  · omega
  · split
    · omega
    · exact nmdL_len _ _ _
theorem runE_drop {α : Type} {f : Keys → α → Int} {g : Keys → α → Keys} {L : List α} {k : Nat} {x : α} (l : Keys) (hx : L[k]? = some x) :
    runE f g (L.drop k) l = if f l x = 0 then runE f g (L.drop (k + 1)) (g l x) else (f l x, g l x) := by
  obtain ⟨hk, rfl⟩ := List.getElem?_eq_some_iff.1 hx; rw [List.drop_eq_getElem_cons hk, runE]
theorem wi_any (a b c : Int) (w : World) : Calls Tryz.prog 138 #[.int .i64 a, .int .i64 b, .int .i64 c] w fun e w' => e = .returned (.bool (wiB a b c)) ∧ w' = w := within_any a b c w
structure CK (w : World) (g b : Nat) (o : SpO) (l : Keys) : Prop where
  blk : Blk w g 164 #[.slice o.A1 o.n1 o.c1, .slice o.A2 o.n2 o.c2, .slice o.A3 o.n3 o.c3, .slice o.A4 o.n4 o.c4, .map (some b)]
  nm : NM w b l.length l
  ne : g ≠ b
theorem CK.below {w w' : World} {g b : Nat} {o : SpO} {l : Keys} (h : CK w g b o l) (hb : Below w.heap.size w w') : CK w' g b o l :=
  ⟨h.blk.below hb h.blk.lt, h.nm.kept (hb.block b h.nm.lt), h.ne⟩
theorem CK.alloc {w : World} {g b : Nat} {o : SpO} {l : Keys} (h : CK w g b o l) (ob : Obj) : CK (w.alloc ob) g b o l := h.below ((Below.refl w.heap.size w).alloc (Nat.le_refl _) ob)
theorem named_all {w : World} {g b : Nat} {o : SpO} {l : Keys} (h : CK w g b o l) (ks nm : ByteArray) (hks : ks.size ≤ 100) (hn : l.length ≤ 1000000) (hnm : nm.size ≤ maxLen) :
    Calls Tryz.prog 137 #[.pointer (some ⟨g, 0, none⟩), .string ks, .string nm] w fun e w' => e = .returned (.int .i64 (nmdE l ks nm)) ∧ CK w' g b o (nmdL l ks nm) ∧ Mv b w w' :=
  (cnamed_any g b l.length l ks nm w ((h.blk.cell 4).trans rfl) h.nm hks hn hnm).mono fun e w' hh => by
    obtain ⟨h1, h2, h3⟩ := hh; unfold nmdE nmdL
    by_cases hb : nmB nm = true
    · by_cases hk : (keyN ks nm).data.toList ∈ l
      · obtain ⟨rfl, rfl⟩ := h2 hb hk; rw [if_pos hb, if_pos hk, if_neg (fun hh => hh.2 hk)]; exact ⟨rfl, h, Mv.refl _ _⟩
      · obtain ⟨rfl, h5, h6⟩ := h3 hb hk; rw [if_pos hb, if_neg hk, if_pos ⟨hb, hk⟩]; have hm : Mv b w w' := Mv.of_grown h6 (fun k hk => by injection hk with hk; exact hk.symm); exact ⟨rfl, ⟨h.blk.mv hm h.ne, h5, h.ne⟩, hm⟩
    · obtain ⟨rfl, rfl⟩ := h1 (by simpa using hb); rw [if_neg hb, if_neg (fun hh => hb hh.1)]; exact ⟨rfl, h, Mv.refl _ _⟩
theorem division_any {w : World} {g b : Nat} {o : SpO} {l : Keys} (h : CK w g b o l) (x : DvV) (hn : l.length ≤ 1000000) (hnm : x.nm.size ≤ maxLen) :
    Calls Tryz.prog 97 #[.pointer (some ⟨g, 0, none⟩), .agg #[.string x.nm, .int .i64 x.lo, .int .i64 x.hi]] w fun e w' =>
      e = .returned (.int .i64 (divE l x)) ∧ CK w' g b o (divL l x) ∧ Mv b w w' := by
  have HE : Sl (divE l x = if nmdE l kDv x.nm = 0 then (if wiB x.lo 0 127 && wiB x.hi x.lo (min 127 (x.lo + 60)) then 0 else 7) else nmdE l kDv x.nm) := ⟨rfl⟩; have HL : Sl (divL l x = nmdL l kDv x.nm) := ⟨rfl⟩; rw [HL.out]; obtain ⟨r, hr⟩ : ∃ r, divE l x = r := ⟨_, rfl⟩; rw [hr] at HE ⊢; obtain ⟨nm, lo, hi⟩ := x; simp only [] at HE HL hnm ⊢; have X0 := Blk.new w 98 #[.string nm, .int .i64 lo, .int .i64 hi]; have hbl := (Below.refl w.heap.size w).alloc (Nat.le_refl _) (.cells #[.string nm, .int .i64 lo, .int .i64 hi] 98); have hC := h.alloc (.cells #[.string nm, .int .i64 lo, .int .i64 hi] 98); have hlt := h.nm.lt; have HX : Sl _ := ⟨X0⟩; have HBL : Sl _ := ⟨hbl⟩; have HLT : Sl _ := ⟨hlt⟩; have HN : Sl _ := ⟨named_all hC kDv nm (by decide) hn hnm⟩; clear X0 hbl hC hlt h hnm hr HL; obtain ⟨z, hz⟩ : ∃ z, nmdE l kDv nm = z := ⟨_, rfl⟩; rw [hz] at HE HN; clear hz; unfold kDv at HN ⊢
  by_cases hz0 : z = 0
  · subst hz0; rw [if_pos rfl] at HE; obtain ⟨b1, hb1⟩ : ∃ b1, wiB lo 0 127 = b1 := ⟨_, rfl⟩; rw [hb1] at HE; have HB1 : Sl _ := ⟨hb1⟩; have HLO : Sl (b1 = true → 0 ≤ lo ∧ lo ≤ 127) := ⟨fun h => by rw [← hb1] at h; unfold wiB at h; simpa using h⟩; clear hb1; go_enter Tryz.func97, Tryz.ntmps97; go_wp2_with fail; refine HN.out.mono ?_; rintro e w1 ⟨rfl, hC1, hm1⟩; have HC1 : Sl _ := ⟨hC1⟩; have HM1 : Sl _ := ⟨hm1⟩; have X1 := HX.out.mv hm1 (by have := HLT.out; omega); have x1 := X1.cell 1; have x2 := X1.cell 2; simp at x1 x2; clear hC1 hm1 X1; go_wp2_with fail; refine (wi_any lo 0 127 w1).mono ?_; rintro e w2 ⟨rfl, rfl⟩; rw [HB1.out]
    cases b1 with
    | false =>
      go_wp2_with fail; go_ret; exact ⟨by rw [HE.out]; rfl, HC1.out, Mv.trans (Mv.below HBL.out) HM1.out⟩
    | true =>
      obtain ⟨h1, h2⟩ := HLO.out rfl; have HMN : Sl (min (127 : Int) (lo + 60) = min 127 (lo + 61 - 1)) := ⟨by omega⟩; obtain ⟨b2, hb2⟩ : ∃ b2, wiB hi lo (min 127 (lo + 60)) = b2 := ⟨_, rfl⟩; rw [hb2] at HE; have HB2 : Sl (∀ z, z = min (127 : Int) (lo + 60) → wiB hi lo z = b2) := ⟨fun z hz => by rw [hz]; exact hb2⟩; clear hb2; go_wp2_with fail; refine (wi_any hi lo _ _).mono ?_; rintro e w3 ⟨rfl, rfl⟩; rw [HB2.out _ (by omega)]
      cases b2 with
      | false =>
        go_wp2_with fail; go_ret; exact ⟨by rw [HE.out]; rfl, HC1.out, Mv.trans (Mv.below HBL.out) HM1.out⟩
      | true =>
        go_wp2_with fail; go_ret; exact ⟨by rw [HE.out]; rfl, HC1.out, Mv.trans (Mv.below HBL.out) HM1.out⟩
  · rw [if_neg hz0] at HE; have q0 : (z != 0) = true := (by rw [bne_iff_ne]; exact hz0); clear hz0; go_enter Tryz.func97, Tryz.ntmps97; go_wp2_with fail; refine HN.out.mono ?_; rintro e w1 ⟨rfl, hC1, hm1⟩; have HC1 : Sl _ := ⟨hC1⟩; have HM1 : Sl _ := ⟨hm1⟩; clear hC1 hm1; go_wp2_with fail; go_ret; exact ⟨by rw [HE.out]; rfl, HC1.out, Mv.trans (Mv.below HBL.out) HM1.out⟩
theorem rank_any {w : World} {g b : Nat} {o : SpO} {l : Keys} (h : CK w g b o l) (x : RnV) (hn : l.length ≤ 1000000) (hnm : x.nm.size ≤ maxLen) (hct : i64 x.ct) :
    Calls Tryz.prog 99 #[.pointer (some ⟨g, 0, none⟩), .agg #[.string x.nm, .int .i64 x.kd, .int .i64 x.fn, .int .i64 x.fd, .int .i64 x.lo, .int .i64 x.ct]] w fun e w' =>
      e = .returned (.int .i64 (rnkE l x)) ∧ CK w' g b o (rnkL l x) ∧ Mv b w w' := by
  have HE : Sl (rnkE l x = if nmdE l kRn x.nm = 0 then (if wiB x.kd 1 4 && decide (vF x.fn x.fd) then (if wiB x.ct 1 97 && wiB x.lo 0 (128 - x.ct) then 0 else 7) else 2) else nmdE l kRn x.nm) := ⟨rfl⟩; have HL : Sl (rnkL l x = nmdL l kRn x.nm) := ⟨rfl⟩; rw [HL.out]; obtain ⟨r, hr⟩ : ∃ r, rnkE l x = r := ⟨_, rfl⟩; rw [hr] at HE ⊢; obtain ⟨nm, kd, fn, fd, lo, ct⟩ := x; simp only [] at HE HL hnm ⊢; have X0 := Blk.new w 100 #[.string nm, .int .i64 kd, .int .i64 fn, .int .i64 fd, .int .i64 lo, .int .i64 ct]; have hbl := (Below.refl w.heap.size w).alloc (Nat.le_refl _) (.cells #[.string nm, .int .i64 kd, .int .i64 fn, .int .i64 fd, .int .i64 lo, .int .i64 ct] 100); have hC := h.alloc (.cells #[.string nm, .int .i64 kd, .int .i64 fn, .int .i64 fd, .int .i64 lo, .int .i64 ct] 100); have hlt := h.nm.lt; have HX : Sl _ := ⟨X0⟩; have HBL : Sl _ := ⟨hbl⟩; have HLT : Sl _ := ⟨hlt⟩; have HN : Sl _ := ⟨named_all hC kRn nm (by decide) hn hnm⟩; have HF : Sl _ := ⟨fun W : World => footage_any fn fd W⟩; clear X0 hbl hC hlt h hnm hr HL hct; obtain ⟨z, hz⟩ : ∃ z, nmdE l kRn nm = z := ⟨_, rfl⟩; rw [hz] at HE HN; clear hz; obtain ⟨f, hf⟩ : ∃ f, decide (vF fn fd) = f := ⟨_, rfl⟩; rw [hf] at HE HF; clear hf; unfold kRn at HN ⊢
  by_cases hz0 : z = 0
  · subst hz0; rw [if_pos rfl] at HE; obtain ⟨b1, hb1⟩ : ∃ b1, wiB kd 1 4 = b1 := ⟨_, rfl⟩; rw [hb1] at HE; have HB1 : Sl _ := ⟨hb1⟩; clear hb1; obtain ⟨b2, hb2⟩ : ∃ b2, wiB ct 1 97 = b2 := ⟨_, rfl⟩; rw [hb2] at HE; have HB2 : Sl _ := ⟨hb2⟩; have HCT : Sl (b2 = true → 1 ≤ ct ∧ ct ≤ 97) := ⟨fun h => by rw [← hb2] at h; unfold wiB at h; simpa using h⟩; clear hb2; go_enter Tryz.func99, Tryz.ntmps99; go_wp2_with fail; refine HN.out.mono ?_; rintro e w1 ⟨rfl, hC1, hm1⟩; have HC1 : Sl _ := ⟨hC1⟩; have HM1 : Sl _ := ⟨hm1⟩; have X1 : Sl (Blk w1 w.heap.size 100 #[.string nm, .int .i64 kd, .int .i64 fn, .int .i64 fd, .int .i64 lo, .int .i64 ct]) := ⟨HX.out.mv hm1 (by have := HLT.out; omega)⟩; have x1 := X1.out.cell 1; have x2 := X1.out.cell 2; have x3 := X1.out.cell 3; simp at x1 x2 x3; clear hC1 hm1; go_wp2_with fail; refine (wi_any kd 1 4 w1).mono ?_; rintro e w2 ⟨rfl, rfl⟩; rw [HB1.out]
    cases b1 with
    | false =>
      go_wp2_with fail; go_ret; exact ⟨by rw [HE.out]; rfl, HC1.out, Mv.trans (Mv.below HBL.out) HM1.out⟩
    | true =>
      go_wp2_with fail; refine (HF.out _).mono ?_; rintro e w3 ⟨rfl, hb3⟩; have HB3 : Sl _ := ⟨hb3⟩; have X3 := X1.out.below hb3 X1.out.lt; clear x1 x2 x3; have x4 := X3.cell 4; have x5 := X3.cell 5; simp at x4 x5; clear hb3 X3
      cases f with
      | false =>
        go_wp2_with fail; go_ret; exact ⟨by rw [HE.out]; rfl, HC1.out.below HB3.out, Mv.trans (Mv.trans (Mv.below HBL.out) HM1.out) (Mv.below HB3.out)⟩
      | true =>
        go_wp2_with fail; refine (wi_any ct 1 97 _).mono ?_; rintro e w4 ⟨rfl, rfl⟩; rw [HB2.out]
        cases b2 with
        | false =>
          go_wp2_with fail; go_ret; exact ⟨by rw [HE.out]; rfl, HC1.out.below HB3.out, Mv.trans (Mv.trans (Mv.below HBL.out) HM1.out) (Mv.below HB3.out)⟩
        | true =>
          obtain ⟨h3, h4⟩ := HCT.out rfl; obtain ⟨b4, hb4⟩ : ∃ b4, wiB lo 0 (128 - ct) = b4 := ⟨_, rfl⟩; rw [hb4] at HE; have HB4 : Sl (∀ z, z = 128 - ct → wiB lo 0 z = b4) := ⟨fun z hz => by rw [hz]; exact hb4⟩; clear hb4; go_wp2_with fail; refine (wi_any lo 0 _ _).mono ?_; rintro e w5 ⟨rfl, rfl⟩; rw [HB4.out _ (by omega)]
          cases b4 with
          | false =>
            go_wp2_with fail; go_ret; exact ⟨by rw [HE.out]; rfl, HC1.out.below HB3.out, Mv.trans (Mv.trans (Mv.below HBL.out) HM1.out) (Mv.below HB3.out)⟩
          | true =>
            go_wp2_with fail; go_ret; exact ⟨by rw [HE.out]; rfl, HC1.out.below HB3.out, Mv.trans (Mv.trans (Mv.below HBL.out) HM1.out) (Mv.below HB3.out)⟩
  · rw [if_neg hz0] at HE; have q0 : (z != 0) = true := (by rw [bne_iff_ne]; exact hz0); clear hz0; go_enter Tryz.func99, Tryz.ntmps99; go_wp2_with fail; refine HN.out.mono ?_; rintro e w1 ⟨rfl, hC1, hm1⟩; have HC1 : Sl _ := ⟨hC1⟩; have HM1 : Sl _ := ⟨hm1⟩; clear hC1 hm1; go_wp2_with fail; go_ret; exact ⟨by rw [HE.out]; rfl, HC1.out, Mv.trans (Mv.below HBL.out) HM1.out⟩
theorem NM.mv {w w' : World} {b n g : Nat} {l : List (List UInt8)} (h : NM w b n l) (hm : Mv g w w') (hne : b ≠ g) : NM w' b n l := h.kept (hm.block b h.lt hne)
structure Chk (w : World) (g b n : Nat) (l : List (List UInt8)) : Prop where
  cell : w.cell? ⟨g, 4, none⟩ = some (.map (some b))
  nm : NM w b n l
  lt : g < w.heap.size
  ne : g ≠ b
theorem Chk.alloc {w : World} {g b n : Nat} {l : List (List UInt8)} (h : Chk w g b n l) (o : Obj) : Chk (w.alloc o) g b n l := by
  have hb := (Below.refl w.heap.size w).alloc (Nat.le_refl _) o; refine ⟨(hb.cell (p := ⟨g, 4, none⟩) h.lt).trans h.cell, h.nm.kept (hb.block b h.nm.lt), Nat.lt_of_lt_of_le h.lt hb.size, h.ne⟩
theorem Chk.below {w w' : World} {g b n : Nat} {l : List (List UInt8)} (h : Chk w g b n l) (hb : Below w.heap.size w w') : Chk w' g b n l :=
  ⟨(hb.cell (p := ⟨g, 4, none⟩) h.lt).trans h.cell, h.nm.kept (hb.block b h.nm.lt), Nat.lt_of_lt_of_le h.lt hb.size, h.ne⟩
end Go.Proofs.YtabkpbbjodfolaaGreatDoor
namespace Go.Proofs.YtabkpbbjodfolaaGreatDoor
open Go.RowKit
open Go.RowKit
open Go.RowKit
open Go.RowKit
end Go.Proofs.YtabkpbbjodfolaaGreatDoor
namespace Go.Proofs.YtabkpbbjodfolaaGreatDoor
open Go.RowKit
theorem wdigits_small (i : Nat) (hi : i < 100) (w : World) : Calls Tryz.prog 141 #[.int .i64 (i : Int)] w fun e w' => e = .returned (.string ⟨(Lib.decDigits i).toArray⟩) ∧ w' = w := by
  have HF : Sl _ := ⟨Tryz.strconv_FormatInt_10_small i hi w⟩; clear hi; go_enter Tryz.func141, Tryz.ntmps141; go_wp2_with fail; refine HF.out.mono ?_; rintro e w1 ⟨rfl, rfl⟩; go_wp2_with fail; go_ret; exact ⟨rfl, rfl⟩
theorem kSt_size {d : Int} (h0 : 0 ≤ d) (h1 : d < 100) : (kSt d).size ≤ 100 := by
  have := tx_size (u := d.toNat) (by omega); unfold kSt; rw [ByteArray.size_append]; have h5 : (⟨#[115, 116, 111, 112, 32]⟩ : ByteArray).size = 5 := rfl; unfold tx at this; omega
theorem pS : (∀ (a : Act) (k : Nat) (v : Value), a.put (some k) v = { a with tmps := a.tmps.setIfInBounds k v }) ∧ (∀ (a : Act) (v : Value), a.put none v = a) ∧ (∀ (l : List Value) (i : Nat) (a : Value), l.toArray.setIfInBounds i a = (l.set i a).toArray) ∧ (∀ (a b : Value) (l : List Value), (a :: l).set 0 b = b :: l) ∧ ∀ (a b : Value) (l : List Value) (n : Nat), (a :: l).set (n + 1) b = a :: l.set n b := ⟨fun _ _ _ => rfl, fun _ _ => rfl, fun l i a => List.setIfInBounds_toArray .., fun _ _ _ => rfl, fun _ _ _ _ => rfl⟩
section
variable {P : Program} {ops : Array Oper} {Q : Exit → Act → World → Prop} {md : Region.Mode} {S : World → Prop}
theorem hP (i : Nat) {oi : Oper} {v : Value} {n : Nat} {l : Array Bool} {a : Act} {w : World} (hi0 : ops.toList[i]? = some oi) (hg : oi.guard = none) (hy : ∀ w, (execOp a.eval oi).run P w = .ok (.value v) w) (h : wpAnyH P md ops Q S n (l.setIfInBounds i true) (a.put oi.dst v) w) (hs : Region.noSelect ops = true := by kernel_rfl) (hf : Region.free md ops l i = true := by kernel_rfl) (hr : (Region.ready md ops l).contains i = true := by kernel_rfl) (hQ : ∀ c a w, Q (.panic c) (a.put oi.dst v) w → Q (.panic c) a w := by exact fun _ _ _ h => h) (hS : S w := by assumption) : wpAnyH P md ops Q S (n + 1) l a w := wpAnyH_pure i hi0 hs hf hr hQ hg hy hS h
theorem hS (i : Nat) {oi : Oper} {v : Value} {n : Nat} {l : Array Bool} {a : Act} {w : World} (hi0 : ops.toList[i]? = some oi) (hg : oi.guard = none) (h : wpAnyH P md ops Q S n (l.setIfInBounds i true) (a.put oi.dst v) w) (hs : Region.noSelect ops = true := by kernel_rfl) (hf : Region.free md ops l i = true := by kernel_rfl) (hr : (Region.ready md ops l).contains i = true := by kernel_rfl) (hQ : ∀ c a w, Q (.panic c) (a.put oi.dst v) w → Q (.panic c) a w := by exact fun _ _ _ h => h) (hS : S w := by assumption) (hy : ∀ w, (execOp a.eval oi).run P w = .ok (.value v) w := by intro _; go_simp) : wpAnyH P md ops Q S (n + 1) l a w := wpAnyH_pure i hi0 hs hf hr hQ hg hy hS h
theorem hM (i : Nat) {oi : Oper} {v : Value} {n : Nat} {l : Array Bool} {a : Act} {w : World} (hi0 : ops.toList[i]? = some oi) (hg : oi.guard = none) (h : wpAnyH P md ops Q S n (l.setIfInBounds i true) (a.put oi.dst v) w) (hs : Region.noSelect ops = true := by kernel_rfl) (hf : Region.free md ops l i = true := by kernel_rfl) (hr : (Region.ready md ops l).contains i = true := by kernel_rfl) (hQ : ∀ c a w, Q (.panic c) (a.put oi.dst v) w → Q (.panic c) a w := by exact fun _ _ _ h => h) (hS : S w := by assumption) (hy : ∀ w, (execOp a.eval oi).run P w = .ok (.value v) w := by intro _; rfl) : wpAnyH P md ops Q S (n + 1) l a w := wpAnyH_pure i hi0 hs hf hr hQ hg hy hS h
theorem hC (i : Nat) {oi : Oper} {v : Value} {n : Nat} {l : Array Bool} {a : Act} {w : World} (hi0 : ops.toList[i]? = some oi) (hg : oi.guard = none) (hy : ∀ w, S w → (execOp a.eval oi).run P w = .ok (.value v) w) (h : wpAnyH P md ops Q S n (l.setIfInBounds i true) (a.put oi.dst v) w) (hs : Region.noSelect ops = true := by kernel_rfl) (hf : Region.free md ops l i = true := by kernel_rfl) (hr : (Region.ready md ops l).contains i = true := by kernel_rfl) (hQ : ∀ c a w, Q (.panic c) (a.put oi.dst v) w → Q (.panic c) a w := by exact fun _ _ _ h => h) (hS : S w := by assumption) : wpAnyH P md ops Q S (n + 1) l a w := wpAnyH_cell i hi0 hg hy hs hf hr hQ hS h
theorem hL (i : Nat) {oi : Oper} {n : Nat} {l : Array Bool} {a : Act} {w : World} (ty : TypeId) (x : Operand) (hi0 : ops.toList[i]? = some oi) (ho : oi.op = .load ty x) (hg : oi.guard = none) (g o : Nat) (hx : a.eval x = .pointer (some ⟨g, o, none⟩)) (vs : Array Value) (d : TypeDesc) (hR : ∀ w, S w → w.rangeAt g o vs.toList) (hu : P.underlying ty = some d) (hd : d.isRow = true) (h : wpAnyH P md ops Q S n (l.setIfInBounds i true) (a.put oi.dst (.agg vs)) w) (hz : (P.info? ty).map (·.size) = some vs.size := by kernel_rfl) (hs : Region.noSelect ops = true := by kernel_rfl) (hf : Region.free md ops l i = true := by kernel_rfl) (hr : (Region.ready md ops l).contains i = true := by kernel_rfl) (hQ : ∀ c a w, Q (.panic c) (a.put oi.dst (.agg vs)) w → Q (.panic c) a w := by exact fun _ _ _ h => h) (hS : S w := by assumption) : wpAnyH P md ops Q S (n + 1) l a w := wpAnyH_load i ty x hi0 ho hg g o hx vs d hR hu hd hz hs hf hr hQ hS h
theorem gP (i : Nat) {oi : Oper} {v : Value} {n : Nat} {l : Array Bool} {a : Act} {w : World} (hi0 : ops.toList[i]? = some oi) (hy : ∀ w, (execOp a.eval oi).run P w = .ok (.value v) w) (h : wpAnyH P md ops Q S n (l.setIfInBounds i true) (a.put oi.dst v) w) (hs : Region.noSelect ops = true := by kernel_rfl) (hf : Region.free md ops l i = true := by kernel_rfl) (hr : (Region.ready md ops l).contains i = true := by kernel_rfl) (hQ : ∀ c a w, Q (.panic c) (a.put oi.dst v) w → Q (.panic c) a w := by exact fun _ _ _ h => h) (hS : S w := by assumption) (hg : Region.wanted oi (yielded ops a.tmps) = true := by rfl) : wpAnyH P md ops Q S (n + 1) l a w := wpAnyH_pureg i hi0 hs hf hr hQ hg hy hS h
theorem gS (i : Nat) {oi : Oper} {v : Value} {n : Nat} {l : Array Bool} {a : Act} {w : World} (hi0 : ops.toList[i]? = some oi) (h : wpAnyH P md ops Q S n (l.setIfInBounds i true) (a.put oi.dst v) w) (hs : Region.noSelect ops = true := by kernel_rfl) (hf : Region.free md ops l i = true := by kernel_rfl) (hr : (Region.ready md ops l).contains i = true := by kernel_rfl) (hQ : ∀ c a w, Q (.panic c) (a.put oi.dst v) w → Q (.panic c) a w := by exact fun _ _ _ h => h) (hS : S w := by assumption) (hg : Region.wanted oi (yielded ops a.tmps) = true := by rfl) (hy : ∀ w, (execOp a.eval oi).run P w = .ok (.value v) w := by intro _; go_simp) : wpAnyH P md ops Q S (n + 1) l a w := wpAnyH_pureg i hi0 hs hf hr hQ hg hy hS h
theorem gM (i : Nat) {oi : Oper} {v : Value} {n : Nat} {l : Array Bool} {a : Act} {w : World} (hi0 : ops.toList[i]? = some oi) (h : wpAnyH P md ops Q S n (l.setIfInBounds i true) (a.put oi.dst v) w) (hs : Region.noSelect ops = true := by kernel_rfl) (hf : Region.free md ops l i = true := by kernel_rfl) (hr : (Region.ready md ops l).contains i = true := by kernel_rfl) (hQ : ∀ c a w, Q (.panic c) (a.put oi.dst v) w → Q (.panic c) a w := by exact fun _ _ _ h => h) (hS : S w := by assumption) (hg : Region.wanted oi (yielded ops a.tmps) = true := by rfl) (hy : ∀ w, (execOp a.eval oi).run P w = .ok (.value v) w := by intro _; rfl) : wpAnyH P md ops Q S (n + 1) l a w := wpAnyH_pureg i hi0 hs hf hr hQ hg hy hS h
theorem gC (i : Nat) {oi : Oper} {v : Value} {n : Nat} {l : Array Bool} {a : Act} {w : World} (hi0 : ops.toList[i]? = some oi) (hy : ∀ w, S w → (execOp a.eval oi).run P w = .ok (.value v) w) (h : wpAnyH P md ops Q S n (l.setIfInBounds i true) (a.put oi.dst v) w) (hs : Region.noSelect ops = true := by kernel_rfl) (hf : Region.free md ops l i = true := by kernel_rfl) (hr : (Region.ready md ops l).contains i = true := by kernel_rfl) (hQ : ∀ c a w, Q (.panic c) (a.put oi.dst v) w → Q (.panic c) a w := by exact fun _ _ _ h => h) (hS : S w := by assumption) (hg : Region.wanted oi (yielded ops a.tmps) = true := by rfl) : wpAnyH P md ops Q S (n + 1) l a w := wpAnyH_cellg i hi0 hg hy hs hf hr hQ hS h
theorem gN (i : Nat) {oi : Oper} {n : Nat} {l : Array Bool} {a : Act} {w : World} (hi0 : ops.toList[i]? = some oi) (h : wpAnyH P md ops Q S n (l.setIfInBounds i true) (a.put oi.dst undef) w) (hs : Region.noSelect ops = true := by kernel_rfl) (hf : Region.free md ops l i = true := by kernel_rfl) (hr : (Region.ready md ops l).contains i = true := by kernel_rfl) (hQ : ∀ c a w, Q (.panic c) (a.put oi.dst undef) w → Q (.panic c) a w := by exact fun _ _ _ h => h) (hS : S w := by assumption) (hg : Region.wanted oi (yielded ops a.tmps) = false := by rfl) : wpAnyH P md ops Q S (n + 1) l a w := wpAnyH_no i hi0 hs hf hr hQ hg hS h
theorem hO (i : Nat) {oi : Oper} {n : Nat} {l : Array Bool} {a : Act} {w : World} (hi0 : ops.toList[i]? = some oi) (hg : oi.guard = none) (h : ∀ K' : Act → World → Prop, Shut (∀ a w, S w → (S w → wpAnyH P md ops Q S n (l.setIfInBounds i true) a w) → K' a w) → Oper.wp P oi a w K' Q) (hr : Region.ready md ops l = [i] := by kernel_rfl) : wpAnyH P md ops Q S (n + 1) l a w := wpAnyH_one i hi0 hr hg h
end
theorem stop_any {w : World} {g b : Nat} {o : SpO} {l : Keys} (h : CK w g b o l) (x : SpV) (hn : l.length ≤ 1000000) (hnm : x.nm.size ≤ maxLen) (hnd : o.n1 ≤ 100) (hxn : x.n ≤ maxLen) :
    Calls Tryz.prog 100 #[.pointer (some ⟨g, 0, none⟩), .agg #[.string x.nm, .int .i64 x.dv, .int .i64 x.fn, .int .i64 x.fd, .slice x.A x.n x.c]] w fun e w' =>
      e = .returned (.int .i64 (stpE o.n1 l x)) ∧ CK w' g b o (stpL o.n1 l x) ∧ Mv b w w' := by
  have HE : Sl (stpE o.n1 l x = if nmB x.nm = false then 6 else if wiB x.dv 0 ((o.n1 : Int) - 1) = false then 4 else if nmdE l (kSt x.dv) x.nm = 0 then (if decide (vF x.fn x.fd) = false ∨ x.n = 0 then 2 else if 12 < x.n then 3 else 0) else nmdE l (kSt x.dv) x.nm) := ⟨rfl⟩; have HL : Sl (stpL o.n1 l x = if nmB x.nm = false then l else if wiB x.dv 0 ((o.n1 : Int) - 1) = false then l else nmdL l (kSt x.dv) x.nm) := ⟨rfl⟩; obtain ⟨r, hr⟩ : ∃ r, stpE o.n1 l x = r := ⟨_, rfl⟩; obtain ⟨L, hL⟩ : ∃ L, stpL o.n1 l x = L := ⟨_, rfl⟩; rw [hr] at HE ⊢; rw [hL] at HL ⊢; obtain ⟨nm, dv, fn, fd, A, n, c, ps⟩ := x; simp only [] at HE HL hnm hxn ⊢; have X0 := Blk.new w 90 #[.string nm, .int .i64 dv, .int .i64 fn, .int .i64 fd, .slice A n c]; have hbl := (Below.refl w.heap.size w).alloc (Nat.le_refl _) (.cells #[.string nm, .int .i64 dv, .int .i64 fn, .int .i64 fd, .slice A n c] 90); have hC := h.alloc (.cells #[.string nm, .int .i64 dv, .int .i64 fn, .int .i64 fd, .slice A n c] 90); have X1 : (w.alloc (.cells #[.string nm, .int .i64 dv, .int .i64 fn, .int .i64 fd, .slice A n c] 90)).cell? ⟨w.heap.size, 1, none⟩ = some (.int .i64 dv) := X0.cell 1; have HC0 : Sl _ := ⟨hC⟩; have HX : Sl _ := ⟨X0⟩; have HBL : Sl _ := ⟨hbl⟩; have HLT : Sl _ := ⟨h.nm.lt⟩; have HG : Sl _ := ⟨h.blk.lt⟩; have cg : (w.alloc (.cells #[.string nm, .int .i64 dv, .int .i64 fn, .int .i64 fd, .slice A n c] 90)).cell? ⟨g, 0, none⟩ = some (.slice o.A1 o.n1 o.c1) := hC.blk.cell 0; have HNM : Sl _ := ⟨fun W : World => name_any nm hnm W⟩; have HN : Sl _ := ⟨fun (W : World) (hW : CK W g b o l) (h0 : 0 ≤ dv) (h1 : dv < 100) => named_all hW (kSt dv) nm (kSt_size h0 h1) hn hnm⟩; have HF : Sl _ := ⟨fun W : World => footage_any fn fd W⟩; have HND : Sl _ := ⟨hnd⟩; clear X0 hbl hC h hnm hr hL hn hnd; obtain ⟨b0, hb0⟩ : ∃ b0, nmB nm = b0 := ⟨_, rfl⟩; rw [hb0] at HE HL HNM; clear hb0; go_enter Tryz.func100, Tryz.ntmps100; go_wp2_with fail; refine (HNM.out _).mono ?_; rintro e w1 ⟨rfl, rfl⟩
  cases b0 with
  | false =>
    go_wp2_with fail; go_ret; exact ⟨by rw [HE.out]; rfl, by rw [HL.out]; exact HC0.out, Mv.below HBL.out⟩
  | true =>
    obtain ⟨b1, hb1⟩ : ∃ b1, wiB dv 0 ((o.n1 : Int) - 1) = b1 := ⟨_, rfl⟩; rw [hb1] at HE HL; have HDV : Sl (b1 = true → 0 ≤ dv ∧ dv < (o.n1 : Int)) := ⟨fun h => by rw [← hb1] at h; unfold wiB at h; simp at h; omega⟩; generalize w.alloc (.cells #[.string nm, .int .i64 dv, .int .i64 fn, .int .i64 fd, .slice A n c] 90) = wa at *
    have VA : Sl (∀ z, Calls Tryz.prog 138 #[.int .i64 dv, .int .i64 0, .int .i64 ((o.n1 : Int) - 1)] (wa.drewN z) fun e w'' => e = .returned (.bool b1) ∧ ∃ k, w'' = wa.drewN k) := ⟨fun z => (wi_any dv 0 ((o.n1 : Int) - 1) (wa.drewN z)).mono fun e w'' h => ⟨by rw [h.1, hb1], z, h.2⟩⟩; have hw1 : IntKind.i64.wrap ((o.n1 : Int) - 1) = (o.n1 : Int) - 1 := (by have := HND.out; rw [IntKind.wrap_i64]; omega); clear hb1; go_wp2_with fail
    go_quiet ((go_at_call 138; (with_reducible exact VA.out _)))
    clear VA hw1
    cases b1 with
    | false =>
      go_wp2_with fail; go_ret; exact ⟨by rw [HE.out]; rfl, by rw [HL.out]; exact HC0.out.below (below_drewN (Below.refl _ _) nq), Mv.below (below_drewN HBL.out nq)⟩
    | true =>
      obtain ⟨h1, h2⟩ := HDV.out rfl; have hd100 : dv < 100 := (by have := HND.out; omega); have hq : Below wa.heap.size wa (wa.drewN nq) := below_drewN (Below.refl _ _) nq; replace HC0 : Sl _ := ⟨HC0.out.below hq⟩; replace HX : Sl _ := ⟨HX.out.below hq HX.out.lt⟩; replace HBL : Sl _ := ⟨below_drewN HBL.out nq⟩; clear X1 cg hq; generalize wa.drewN nq = wb at *
      obtain ⟨d, rfl⟩ := Int.eq_ofNat_of_zero_le h1; have HD : Sl _ := ⟨fun W : World => wdigits_small d (by omega) W⟩; have HN2 : Sl _ := ⟨fun (W : World) (hW : Below wb.heap.size wb W) => HN.out W (HC0.out.below hW) h1 hd100⟩; have hks : kSt (d : Int) = ⟨#[115, 116, 111, 112, 32]⟩ ++ ⟨(Lib.decDigits d).toArray⟩ := rfl; obtain ⟨z, hz⟩ : ∃ z, nmdE l (kSt (d : Int)) nm = z := ⟨_, rfl⟩; obtain ⟨L2, hL2⟩ : ∃ L2, nmdL l (kSt (d : Int)) nm = L2 := ⟨_, rfl⟩; rw [hz] at HE HN2; rw [hL2] at HL HN2; have hsz := tx_size (u := d) (by omega); unfold tx at hsz; rw [hks] at HN2; generalize (⟨(Lib.decDigits d).toArray⟩ : ByteArray) = td at *
      have h5 : (⟨#[115, 116, 111, 112, 32]⟩ : ByteArray).size = 5 := rfl; have HGB : Sl (w.heap.size ≠ b ∧ w.heap.size < wb.heap.size) := ⟨by have := HLT.out; omega, HX.out.lt⟩; clear hz hL2 hks HN HC0; go_wp2_with fail; have hbd : Below wb.heap.size wb wb.drew := below_drewN (Below.refl _ _) 1; have HBD : Sl _ := ⟨hbd⟩; have hmd : Mv b wb wb.drew := Mv.drewN (Mv.refl b wb) 1; have HMD : Sl _ := ⟨hmd⟩; clear hbd hmd; have hm := HMD.out; refine wp_region_held_drew (S := fun w' => Mv b wb w') (by kernel_rfl) hm (fun hHeld => ?_); clear hm; refine hM 0 (v := .pointer (some ⟨g, 0, none⟩)) rfl rfl ?_; simp only [pS]; refine hS 1 (v := .pointer (some ⟨w.heap.size, 1, none⟩)) rfl rfl ?_; simp only [pS]
      refine hC 2 (v := .int .i64 (d : Int)) rfl rfl (fun w' h => by
        have hc := (HX.out.mv h HGB.out.1).cell 1
        go_simp) ?_
      simp only [pS]; refine hS 5 (v := .pointer (some ⟨w.heap.size, 0, none⟩)) rfl rfl ?_; simp only [pS]
      refine hC 6 (v := .string nm) rfl rfl (fun w' h => by
        have hc := (HX.out.mv h HGB.out.1).cell 0
        go_simp) ?_
      simp only [pS]; refine hO 3 rfl rfl fun K hK => ?_; go_simp; go_at_call 141
      (with_reducible refine (HD.out _).mono ?_)
      rintro e3 w3 ⟨rfl, rfl⟩; refine hK.out _ _ HMD.out (fun hHeld => ?_); clear hK K
      (try simp only [pS])
      refine hP 4 (v := .string (⟨#[115, 116, 111, 112, 32]⟩ ++ td)) rfl rfl (fun _ => by go_simp; omega) ?_; simp only [pS]; refine hO 7 rfl rfl fun K hK => ?_; go_simp; go_at_call 137
      (with_reducible refine (HN2.out wb.drew HBD.out).mono ?_)
      rintro e4 w4 ⟨rfl, hC4, hm4⟩; have hm5 : Mv b wb w4 := Mv.trans HMD.out hm4; have HC4 : Sl _ := ⟨hC4⟩; have HM4 : Sl _ := ⟨hm5⟩; clear hC4 hm4 hm5; refine hK.out _ _ HM4.out (fun hHeld => ?_); clear hK K
      (try simp only [pS])
      refine hM 8 (v := .int .i64 z) rfl rfl ?_; simp only [pS]; refine wpAnyH_done (by kernel_rfl) ?_ _; clear hHeld hsz h5
      by_cases hz0 : z = 0
      · subst hz0; rw [if_pos rfl] at HE; replace HX : Sl (Blk w4 w.heap.size 90 #[.string nm, .int .i64 (d : Int), .int .i64 fn, .int .i64 fd, .slice A n c]) := ⟨HX.out.mv HM4.out HGB.out.1⟩; have x2 := HX.out.cell 2; have x3 := HX.out.cell 3; have x4 := HX.out.cell 4; simp at x2 x3 x4; obtain ⟨f, hf⟩ : ∃ f, decide (vF fn fd) = f := ⟨_, rfl⟩; rw [hf] at HE HF; clear hf; go_wp2_with fail; refine (HF.out _).mono ?_; rintro e w5 ⟨rfl, hb5⟩; have HB5 : Sl _ := ⟨hb5⟩; have hx5 := HX.out.below hb5 HX.out.lt; clear x2 x3 x4 hb5; have x4 := hx5.cell 4; simp at x4; clear hx5
        cases f with
        | false =>
          go_wp2_with fail; go_ret; exact ⟨by rw [HE.out]; simp, by rw [HL.out]; exact HC4.out.below HB5.out, Mv.trans (Mv.trans (Mv.below HBL.out) HM4.out) (Mv.below HB5.out)⟩
        | true =>
          have HMM : Sl _ := ⟨Mv.trans (Mv.trans (Mv.below HBL.out) HM4.out) (Mv.below HB5.out)⟩
          by_cases hn0 : n = 0
          · have q0 : ((n : Int) == 0) = true := (by rw [hn0]; rfl); have HR : Sl (r = 2) := ⟨by rw [HE.out]; simp [hn0]⟩; clear hn0; go_wp2_with fail; go_ret; exact ⟨by rw [HR.out]; rfl, by rw [HL.out]; exact HC4.out.below HB5.out, HMM.out⟩
          · have q0 : ((n : Int) == 0) = false := (by rw [beq_eq_false_iff_ne]; omega)
            by_cases hn12 : 12 < n
            · have q1 : decide ((12 : Int) < (n : Int)) = true := decide_eq_true (by omega); have q2 : (12 : Int) < (n : Int) := (by omega); have HR : Sl (r = 3) := ⟨by rw [HE.out]; simp [hn0, hn12]⟩; clear hn0 hn12; go_wp2_with fail; go_ret; exact ⟨by rw [HR.out]; rfl, by rw [HL.out]; exact HC4.out.below HB5.out, HMM.out⟩
            · have q1 : decide ((12 : Int) < (n : Int)) = false := decide_eq_false (by omega); have q2 : ¬ (12 : Int) < (n : Int) := (by omega); have HR : Sl (r = 0) := ⟨by rw [HE.out]; simp [hn0, hn12]⟩; clear hn0 hn12; go_wp2_with fail; go_ret; exact ⟨by rw [HR.out]; rfl, by rw [HL.out]; exact HC4.out.below HB5.out, HMM.out⟩
      · rw [if_neg hz0] at HE; have q0 : (z != 0) = true := (by rw [bne_iff_ne]; exact hz0); clear hz0; go_wp2_with fail; go_ret; exact ⟨by rw [HE.out]; rfl, by rw [HL.out]; exact HC4.out, Mv.trans (Mv.below HBL.out) HM4.out⟩
theorem first_dv (A : Option Addr) (n c : Nat) (L : List DvV) (q : Value) (E : Keys → DvV → Int) (G : Keys → DvV → Keys) (P : Nat → Keys → World → Prop) (w : World) (l0 : Keys) (hn : n ≤ 100000)
    (hB : ∀ k l W, P k l W → RowG W A n 3 DvV.cells L) (hA : ∀ k l W o, P k l W → P k l (W.alloc o))
    (hF : ∀ k l W x, L[k]? = some x → P k l W → Calls Tryz.prog 97 #[q, .agg #[.string x.nm, .int .i64 x.lo, .int .i64 x.hi]] W fun e w' => e = .returned (.int .i64 (E l x)) ∧ P (k + 1) (G l x) w') (hP : P 0 l0 w) :
    Calls Tryz.prog 96 #[.slice A n c, .func (.func 97) #[q] #[]] w fun e w' => (∃ i : Nat, i ≤ n ∧ e = .returned (.tuple #[.int .i64 (i : Int), .int .i64 (runE E G L l0).1])) ∧ ∃ k, k ≤ n ∧ P k (runE E G L l0).2 w' := by
  have HB : Sl _ := ⟨hB⟩; have HA : Sl _ := ⟨hA⟩; have HF : Sl _ := ⟨hF⟩; have HP : Sl _ := ⟨hP⟩; have HN : Sl (L.length = n) := ⟨(hB 0 l0 w hP).len⟩; clear hB hA hF hP; obtain ⟨R, hR⟩ : ∃ R, runE E G L l0 = R := ⟨_, rfl⟩; rw [hR]; have HR : Sl _ := ⟨hR⟩; clear hR; have hrun : ∀ (args : Array Value) (w : World), (callFunc 97 args).run Tryz.prog w = .ok (.enter 97 args) w := fun a w => by go_simp
  go_enter Tryz.func96, Tryz.ntmps96; go_wp2_with fail
  go_loopw [11] (fun s11 wr => ∃ (k : Nat) (l : Keys), k ≤ n ∧ s11 = .int .i64 k ∧ Sl (P k l wr) ∧ Sl (runE E G (L.drop k) l = R)) (fun s11 _ => n - (RowKit.intOf s11).toNat)
  case atStart => exact ⟨0, l0, Nat.zero_le _, rfl, HP, HR⟩
  case round =>
    obtain ⟨k, l, hk, rfl, HPK, HRK⟩ := hrel
    by_cases hkn : k < n
    · have hkI : decide ((k : Int) < (n : Int)) = true := decide_eq_true (by omega); have hkI2 : (k : Int) < (n : Int) := (by omega); have X := HB.out k l wr HPK.out; obtain ⟨gb, o, x, rfl, hgb, hx, hra⟩ := X.at_ (by omega) hkn; have HRX := runE_drop (f := E) (g := G) l hx; rw [HRK.out] at HRX; have HC : Sl _ := ⟨HF.out k l _ x hx (HA.out k l wr (.cells #[.string x.nm, .int .i64 x.lo, .int .i64 x.hi] 98) HPK.out)⟩; have x0 := hra 0 _ rfl; have x1 := hra 1 _ rfl; have x2 := hra 2 _ rfl; rw [Nat.add_zero] at x0; clear hra X hx; obtain ⟨v0, v1, v2⟩ := x; simp only [] at x0 x1 x2 HC HRX; obtain ⟨z, hz⟩ : ∃ z, E l ⟨v0, v1, v2⟩ = z := ⟨_, rfl⟩; obtain ⟨l2, hl2⟩ : ∃ l2, G l ⟨v0, v1, v2⟩ = l2 := ⟨_, rfl⟩; rw [hz, hl2] at HRX; rw [hz, hl2] at HC; have HX : Sl _ := ⟨HRX⟩; clear hz hl2 HRX
      by_cases hz0 : z = 0
      · subst hz0; rw [if_pos rfl] at HX; go_wp2_with fail; refine HC.out.mono ?_; rintro e w1 ⟨rfl, hp1⟩; have HP1 : Sl _ := ⟨hp1⟩; clear hp1; go_wp2_with fail; exact ⟨⟨k + 1, l2, by omega, by go_num, HP1, ⟨HX.out.symm⟩⟩, by simp [RowKit.intOf]; omega⟩
      · rw [if_neg hz0] at HX; have q0 : (z != 0) = true := (by rw [bne_iff_ne]; exact hz0); have HKN : Sl (k + 1 ≤ n) := ⟨hkn⟩; clear hz0; go_wp2_with fail; refine HC.out.mono ?_; rintro e w1 ⟨rfl, hp1⟩; have HP1 : Sl _ := ⟨hp1⟩; clear hp1; go_wp2_with fail
        (try simp only [Exit.inBlock, Exit.then])
        go_ret2; exact ⟨⟨k, Nat.le_of_succ_le HKN.out, by rw [HX.out]; rfl⟩, k + 1, HKN.out, by rw [HX.out]; exact HP1.out⟩
    · obtain rfl : k = n := (by omega); have HX : Sl (R = (0, l)) := ⟨by rw [← HRK.out, ← HN.out, List.drop_length, runE]⟩; go_wp2_with fail; go_ret2; exact ⟨⟨0, Nat.zero_le _, by rw [HX.out]; rfl⟩, _, Nat.le_refl _, by rw [HX.out]; exact HPK.out⟩
theorem first_rn (A : Option Addr) (n c : Nat) (L : List RnV) (q : Value) (E : Keys → RnV → Int) (G : Keys → RnV → Keys) (P : Nat → Keys → World → Prop) (w : World) (l0 : Keys) (hn : n ≤ 100000)
    (hB : ∀ k l W, P k l W → RowG W A n 6 RnV.cells L) (hA : ∀ k l W o, P k l W → P k l (W.alloc o))
    (hF : ∀ k l W x, L[k]? = some x → P k l W → Calls Tryz.prog 99 #[q, .agg #[.string x.nm, .int .i64 x.kd, .int .i64 x.fn, .int .i64 x.fd, .int .i64 x.lo, .int .i64 x.ct]] W fun e w' => e = .returned (.int .i64 (E l x)) ∧ P (k + 1) (G l x) w') (hP : P 0 l0 w) :
    Calls Tryz.prog 98 #[.slice A n c, .func (.func 99) #[q] #[]] w fun e w' => (∃ i : Nat, i ≤ n ∧ e = .returned (.tuple #[.int .i64 (i : Int), .int .i64 (runE E G L l0).1])) ∧ ∃ k, k ≤ n ∧ P k (runE E G L l0).2 w' := by
  have HB : Sl _ := ⟨hB⟩; have HA : Sl _ := ⟨hA⟩; have HF : Sl _ := ⟨hF⟩; have HP : Sl _ := ⟨hP⟩; have HN : Sl (L.length = n) := ⟨(hB 0 l0 w hP).len⟩; clear hB hA hF hP; obtain ⟨R, hR⟩ : ∃ R, runE E G L l0 = R := ⟨_, rfl⟩; rw [hR]; have HR : Sl _ := ⟨hR⟩; clear hR; have hrun : ∀ (args : Array Value) (w : World), (callFunc 99 args).run Tryz.prog w = .ok (.enter 99 args) w := fun a w => by go_simp
  go_enter Tryz.func98, Tryz.ntmps98; go_wp2_with fail
  go_loopw [11] (fun s11 wr => ∃ (k : Nat) (l : Keys), k ≤ n ∧ s11 = .int .i64 k ∧ Sl (P k l wr) ∧ Sl (runE E G (L.drop k) l = R)) (fun s11 _ => n - (RowKit.intOf s11).toNat)
  case atStart => exact ⟨0, l0, Nat.zero_le _, rfl, HP, HR⟩
  case round =>
    obtain ⟨k, l, hk, rfl, HPK, HRK⟩ := hrel
    by_cases hkn : k < n
    · have hkI : decide ((k : Int) < (n : Int)) = true := decide_eq_true (by omega); have hkI2 : (k : Int) < (n : Int) := (by omega); have X := HB.out k l wr HPK.out; obtain ⟨gb, o, x, rfl, hgb, hx, hra⟩ := X.at_ (by omega) hkn; have HRX := runE_drop (f := E) (g := G) l hx; rw [HRK.out] at HRX; have HC : Sl _ := ⟨HF.out k l _ x hx (HA.out k l wr (.cells #[.string x.nm, .int .i64 x.kd, .int .i64 x.fn, .int .i64 x.fd, .int .i64 x.lo, .int .i64 x.ct] 100) HPK.out)⟩; have x0 := hra 0 _ rfl; have x1 := hra 1 _ rfl; have x2 := hra 2 _ rfl; have x3 := hra 3 _ rfl; have x4 := hra 4 _ rfl; have x5 := hra 5 _ rfl; rw [Nat.add_zero] at x0; clear hra X hx; obtain ⟨v0, v1, v2, v3, v4, v5⟩ := x; simp only [] at x0 x1 x2 x3 x4 x5 HC HRX; obtain ⟨z, hz⟩ : ∃ z, E l ⟨v0, v1, v2, v3, v4, v5⟩ = z := ⟨_, rfl⟩; obtain ⟨l2, hl2⟩ : ∃ l2, G l ⟨v0, v1, v2, v3, v4, v5⟩ = l2 := ⟨_, rfl⟩; rw [hz, hl2] at HRX; rw [hz, hl2] at HC; have HX : Sl _ := ⟨HRX⟩; clear hz hl2 HRX
      by_cases hz0 : z = 0
      · subst hz0; rw [if_pos rfl] at HX; go_wp2_with fail; refine HC.out.mono ?_; rintro e w1 ⟨rfl, hp1⟩; have HP1 : Sl _ := ⟨hp1⟩; clear hp1; go_wp2_with fail; exact ⟨⟨k + 1, l2, by omega, by go_num, HP1, ⟨HX.out.symm⟩⟩, by simp [RowKit.intOf]; omega⟩
      · rw [if_neg hz0] at HX; have q0 : (z != 0) = true := (by rw [bne_iff_ne]; exact hz0); have HKN : Sl (k + 1 ≤ n) := ⟨hkn⟩; clear hz0; go_wp2_with fail; refine HC.out.mono ?_; rintro e w1 ⟨rfl, hp1⟩; have HP1 : Sl _ := ⟨hp1⟩; clear hp1; go_wp2_with fail
        (try simp only [Exit.inBlock, Exit.then])
        go_ret2; exact ⟨⟨k, Nat.le_of_succ_le HKN.out, by rw [HX.out]; rfl⟩, k + 1, HKN.out, by rw [HX.out]; exact HP1.out⟩
    · obtain rfl : k = n := (by omega); have HX : Sl (R = (0, l)) := ⟨by rw [← HRK.out, ← HN.out, List.drop_length, runE]⟩; go_wp2_with fail; go_ret2; exact ⟨⟨0, Nat.zero_le _, by rw [HX.out]; rfl⟩, _, Nat.le_refl _, by rw [HX.out]; exact HPK.out⟩
theorem first_pr (A : Option Addr) (n c : Nat) (L : List PrV) (q1 q2 q3 : Value) (E : Keys → PrV → Int) (G : Keys → PrV → Keys) (P : Nat → Keys → World → Prop) (w : World) (l0 : Keys) (hn : n ≤ 100000)
    (hB : ∀ k l W, P k l W → RowG W A n 4 PrV.cells L) (hA : ∀ k l W o, P k l W → P k l (W.alloc o))
    (hF : ∀ k l W x, L[k]? = some x → P k l W → Calls Tryz.prog 101 #[.agg #[.int .i64 x.rk, .int .i64 x.sh, .int .i64 x.lo, .int .i64 x.hi], q1, q2, q3] W fun e w' => e = .returned (.int .i64 (E l x)) ∧ P (k + 1) (G l x) w') (hP : P 0 l0 w) :
    Calls Tryz.prog 103 #[.slice A n c, .func (.func 101) #[] #[q1, q2, q3]] w fun e w' => (∃ i : Nat, i ≤ n ∧ e = .returned (.tuple #[.int .i64 (i : Int), .int .i64 (runE E G L l0).1])) ∧ ∃ k, k ≤ n ∧ P k (runE E G L l0).2 w' := by
  have HB : Sl _ := ⟨hB⟩; have HA : Sl _ := ⟨hA⟩; have HF : Sl _ := ⟨hF⟩; have HP : Sl _ := ⟨hP⟩; have HN : Sl (L.length = n) := ⟨(hB 0 l0 w hP).len⟩; clear hB hA hF hP; obtain ⟨R, hR⟩ : ∃ R, runE E G L l0 = R := ⟨_, rfl⟩; rw [hR]; have HR : Sl _ := ⟨hR⟩; clear hR; have hrun : ∀ (args : Array Value) (w : World), (callFunc 101 args).run Tryz.prog w = .ok (.enter 101 args) w := fun a w => by go_simp
  go_enter Tryz.func103, Tryz.ntmps103; go_wp2_with fail
  go_loopw [11] (fun s11 wr => ∃ (k : Nat) (l : Keys), k ≤ n ∧ s11 = .int .i64 k ∧ Sl (P k l wr) ∧ Sl (runE E G (L.drop k) l = R)) (fun s11 _ => n - (RowKit.intOf s11).toNat)
  case atStart => exact ⟨0, l0, Nat.zero_le _, rfl, HP, HR⟩
  case round =>
    obtain ⟨k, l, hk, rfl, HPK, HRK⟩ := hrel
    by_cases hkn : k < n
    · have hkI : decide ((k : Int) < (n : Int)) = true := decide_eq_true (by omega); have hkI2 : (k : Int) < (n : Int) := (by omega); have X := HB.out k l wr HPK.out; obtain ⟨gb, o, x, rfl, hgb, hx, hra⟩ := X.at_ (by omega) hkn; have HRX := runE_drop (f := E) (g := G) l hx; rw [HRK.out] at HRX; have HC : Sl _ := ⟨HF.out k l _ x hx (HA.out k l wr (.cells #[.int .i64 x.rk, .int .i64 x.sh, .int .i64 x.lo, .int .i64 x.hi] 102) HPK.out)⟩; have x0 := hra 0 _ rfl; have x1 := hra 1 _ rfl; have x2 := hra 2 _ rfl; have x3 := hra 3 _ rfl; rw [Nat.add_zero] at x0; clear hra X hx; obtain ⟨v0, v1, v2, v3⟩ := x; simp only [] at x0 x1 x2 x3 HC HRX; obtain ⟨z, hz⟩ : ∃ z, E l ⟨v0, v1, v2, v3⟩ = z := ⟨_, rfl⟩; obtain ⟨l2, hl2⟩ : ∃ l2, G l ⟨v0, v1, v2, v3⟩ = l2 := ⟨_, rfl⟩; rw [hz, hl2] at HRX; rw [hz, hl2] at HC; have HX : Sl _ := ⟨HRX⟩; clear hz hl2 HRX
      by_cases hz0 : z = 0
      · subst hz0; rw [if_pos rfl] at HX; go_wp2_with fail; refine HC.out.mono ?_; rintro e w1 ⟨rfl, hp1⟩; have HP1 : Sl _ := ⟨hp1⟩; clear hp1; go_wp2_with fail; exact ⟨⟨k + 1, l2, by omega, by go_num, HP1, ⟨HX.out.symm⟩⟩, by simp [RowKit.intOf]; omega⟩
      · rw [if_neg hz0] at HX; have q0 : (z != 0) = true := (by rw [bne_iff_ne]; exact hz0); have HKN : Sl (k + 1 ≤ n) := ⟨hkn⟩; clear hz0; go_wp2_with fail; refine HC.out.mono ?_; rintro e w1 ⟨rfl, hp1⟩; have HP1 : Sl _ := ⟨hp1⟩; clear hp1; go_wp2_with fail
        (try simp only [Exit.inBlock, Exit.then])
        go_ret2; exact ⟨⟨k, Nat.le_of_succ_le HKN.out, by rw [HX.out]; rfl⟩, k + 1, HKN.out, by rw [HX.out]; exact HP1.out⟩
    · obtain rfl : k = n := (by omega); have HX : Sl (R = (0, l)) := ⟨by rw [← HRK.out, ← HN.out, List.drop_length, runE]⟩; go_wp2_with fail; go_ret2; exact ⟨⟨0, Nat.zero_le _, by rw [HX.out]; rfl⟩, _, Nat.le_refl _, by rw [HX.out]; exact HPK.out⟩
theorem first_cp (A : Option Addr) (n c : Nat) (L : List CpV) (q : Value) (E : Keys → CpV → Int) (G : Keys → CpV → Keys) (P : Nat → Keys → World → Prop) (w : World) (l0 : Keys) (hn : n ≤ 100000)
    (hB : ∀ k l W, P k l W → RowG W A n 6 CpV.cells L) (hA : ∀ k l W o, P k l W → P k l (W.alloc o))
    (hF : ∀ k l W x, L[k]? = some x → P k l W → Calls Tryz.prog 105 #[q, .agg #[.string x.nm, .int .i64 x.fr, .int .i64 x.tt, .int .i64 x.sh, .int .i64 x.on, .bool x.th]] W fun e w' => e = .returned (.int .i64 (E l x)) ∧ P (k + 1) (G l x) w') (hP : P 0 l0 w) :
    Calls Tryz.prog 104 #[.slice A n c, .func (.func 105) #[q] #[]] w fun e w' => (∃ i : Nat, i ≤ n ∧ e = .returned (.tuple #[.int .i64 (i : Int), .int .i64 (runE E G L l0).1])) ∧ ∃ k, k ≤ n ∧ P k (runE E G L l0).2 w' := by
  have HB : Sl _ := ⟨hB⟩; have HA : Sl _ := ⟨hA⟩; have HF : Sl _ := ⟨hF⟩; have HP : Sl _ := ⟨hP⟩; have HN : Sl (L.length = n) := ⟨(hB 0 l0 w hP).len⟩; clear hB hA hF hP; obtain ⟨R, hR⟩ : ∃ R, runE E G L l0 = R := ⟨_, rfl⟩; rw [hR]; have HR : Sl _ := ⟨hR⟩; clear hR; have hrun : ∀ (args : Array Value) (w : World), (callFunc 105 args).run Tryz.prog w = .ok (.enter 105 args) w := fun a w => by go_simp
  go_enter Tryz.func104, Tryz.ntmps104; go_wp2_with fail
  go_loopw [11] (fun s11 wr => ∃ (k : Nat) (l : Keys), k ≤ n ∧ s11 = .int .i64 k ∧ Sl (P k l wr) ∧ Sl (runE E G (L.drop k) l = R)) (fun s11 _ => n - (RowKit.intOf s11).toNat)
  case atStart => exact ⟨0, l0, Nat.zero_le _, rfl, HP, HR⟩
  case round =>
    obtain ⟨k, l, hk, rfl, HPK, HRK⟩ := hrel
    by_cases hkn : k < n
    · have hkI : decide ((k : Int) < (n : Int)) = true := decide_eq_true (by omega); have hkI2 : (k : Int) < (n : Int) := (by omega); have X := HB.out k l wr HPK.out; obtain ⟨gb, o, x, rfl, hgb, hx, hra⟩ := X.at_ (by omega) hkn; have HRX := runE_drop (f := E) (g := G) l hx; rw [HRK.out] at HRX; have HC : Sl _ := ⟨HF.out k l _ x hx (HA.out k l wr (.cells #[.string x.nm, .int .i64 x.fr, .int .i64 x.tt, .int .i64 x.sh, .int .i64 x.on, .bool x.th] 93) HPK.out)⟩; have x0 := hra 0 _ rfl; have x1 := hra 1 _ rfl; have x2 := hra 2 _ rfl; have x3 := hra 3 _ rfl; have x4 := hra 4 _ rfl; have x5 := hra 5 _ rfl; rw [Nat.add_zero] at x0; clear hra X hx; obtain ⟨v0, v1, v2, v3, v4, v5⟩ := x; simp only [] at x0 x1 x2 x3 x4 x5 HC HRX; obtain ⟨z, hz⟩ : ∃ z, E l ⟨v0, v1, v2, v3, v4, v5⟩ = z := ⟨_, rfl⟩; obtain ⟨l2, hl2⟩ : ∃ l2, G l ⟨v0, v1, v2, v3, v4, v5⟩ = l2 := ⟨_, rfl⟩; rw [hz, hl2] at HRX; rw [hz, hl2] at HC; have HX : Sl _ := ⟨HRX⟩; clear hz hl2 HRX
      by_cases hz0 : z = 0
      · subst hz0; rw [if_pos rfl] at HX; go_wp2_with fail; refine HC.out.mono ?_; rintro e w1 ⟨rfl, hp1⟩; have HP1 : Sl _ := ⟨hp1⟩; clear hp1; go_wp2_with fail; exact ⟨⟨k + 1, l2, by omega, by go_num, HP1, ⟨HX.out.symm⟩⟩, by simp [RowKit.intOf]; omega⟩
      · rw [if_neg hz0] at HX; have q0 : (z != 0) = true := (by rw [bne_iff_ne]; exact hz0); have HKN : Sl (k + 1 ≤ n) := ⟨hkn⟩; clear hz0; go_wp2_with fail; refine HC.out.mono ?_; rintro e w1 ⟨rfl, hp1⟩; have HP1 : Sl _ := ⟨hp1⟩; clear hp1; go_wp2_with fail
        (try simp only [Exit.inBlock, Exit.then])
        go_ret2; exact ⟨⟨k, Nat.le_of_succ_le HKN.out, by rw [HX.out]; rfl⟩, k + 1, HKN.out, by rw [HX.out]; exact HP1.out⟩
    · obtain rfl : k = n := (by omega); have HX : Sl (R = (0, l)) := ⟨by rw [← HRK.out, ← HN.out, List.drop_length, runE]⟩; go_wp2_with fail; go_ret2; exact ⟨⟨0, Nat.zero_le _, by rw [HX.out]; rfl⟩, _, Nat.le_refl _, by rw [HX.out]; exact HPK.out⟩
section
variable {P : Program} {ops : Array Oper} {Q : Exit → Act → World → Prop} {md : Region.Mode} {S : World → Prop}
theorem wpAnyH_twom (i j : Nat) {oi oj : Oper} {fuel : Nat} {listed : Array Bool} {a : Act} {w : World} (hi0 : ops.toList[i]? = some oi) (hj0 : ops.toList[j]? = some oj) (hr : Region.ready md ops listed = [i, j]) (hgi : oi.guard = none) (hgj : oj.guard = none)
    (h1 : ∀ K' : Act → World → Prop, Shut (∀ a w, S w → (S w → wpAnyH P md ops Q S fuel (listed.setIfInBounds i true) a w) → K' a w) → Oper.wp P oi a w K' Q)
    (h2 : ∀ K' : Act → World → Prop, Shut (∀ a w, S w → (S w → wpAnyH P md ops Q S fuel (listed.setIfInBounds j true) a w) → K' a w) → Oper.wp P oj a w K' Q) : wpAnyH P md ops Q S (fuel + 1) listed a w :=
  have hi : ops[i]? = some oi := (by rw [← Array.getElem?_toList]; exact hi0); have hj : ops[j]? = some oj := (by rw [← Array.getElem?_toList]; exact hj0)
  wpAnyH_ready hr (by simp) (AllReadyH.cons hi (fun K' hK => by
    have hw : Region.wanted oi (yielded ops a.tmps) = true := (by simp [Region.wanted, hgi]); rw [if_pos hw]
    exact h1 K' hK) (AllReadyH.cons hj (fun K' hK => by
    have hw : Region.wanted oj (yielded ops a.tmps) = true := (by simp [Region.wanted, hgj]); rw [if_pos hw]
    exact h2 K' hK) AllReadyH.nil))
end
section
variable {P : Program} {op : Oper} {a : Act} {w : World} {K : Act → World → Prop} {Q : Exit → Act → World → Prop}
theorem wp_alloc_newm (ty : TypeId) (ho : op.op = .alloc ty) (cells : Array Value)
    (hz : ∀ w, (Instr.alloc ty true (.tuple #[])).run P w = .ok (.pointer (some ⟨w.heap.size, 0, none⟩)) (w.alloc (.cells cells ty)))
    (h : ∀ w' g, g = w.heap.size → Below w.heap.size w w' → w'.heap.size = g + 1 → Blk w' g ty cells → K (a.put op.dst (.pointer (some ⟨g, 0, none⟩))) w') : op.wp P a w K Q := by
  have hrun : (execOp a.eval op).run P w = .ok (.value (.pointer (some ⟨w.heap.size, 0, none⟩))) (w.alloc (.cells cells ty)) := by
    unfold execOp; simp only [ho, Sem.run_bind, hz, Result.andThen_ok, Sem.run_pure]
  unfold Oper.wp; rw [hrun, Oper.upon_value]; exact h _ _ rfl ((Below.refl _ _).alloc (Nat.le_refl _) _) (by simp) (Blk.new w ty cells)
end
section
variable {P : Program} {op : Oper} {a : Act} {w : World} {K : Act → World → Prop} {Q : Exit → Act → World → Prop}
theorem wp_store_partm (ty : TypeId) (x y : Operand) (ho : op.op = .store ty x y)
    (g o : Nat) (cells : Array Value) (hx : a.eval x = .pointer (some ⟨g, o, none⟩)) (hy : a.eval y = .agg cells)
    (t : TypeId) (cs cs' : Array Value) (hB : Blk w g t cs) (hn : o + cells.size ≤ cs.size) (hp : putA cs o cells.toList = cs')
    (hi : (P.info? ty).map (·.size) = some cells.size) (h1 : cells.all (·.oneCell') = true)
    (h : ∀ w', Mv g w w' → w'.heap.size = w.heap.size → Blk w' g t cs' → K (a.put op.dst undef) w') : op.wp P a w K Q := by
  refine wp_store_mid ty x y ho g o cells hx hy (hB.there o _ hn) hi h1 (h _ (Mv.setCells _ _ _ _) (setCells_size _ _ _ _) ?_); rw [← hp]; exact Blk.setCells (w := w) _ _ _ _ hB
end
theorem alloc_rank (w : World) : (Instr.alloc 100 true (.tuple #[])).run Tryz.prog w = .ok (.pointer (some ⟨w.heap.size, 0, none⟩)) (w.alloc (.cells #[.string ⟨#[]⟩, .int .i64 0, .int .i64 0, .int .i64 0, .int .i64 0, .int .i64 0] 100)) := by kernel_rfl
theorem part_any {w : World} {g b : Nat} {o : SpO} {l : Keys} (h : CK w g b o l) (hR : RowG w o.A2 o.n2 6 RnV.cells o.rs) (hrb : ∀ r ∈ o.rs, (0 ≤ r.lo ∧ r.lo ≤ 1000) ∧ (0 ≤ r.ct ∧ r.ct ≤ 1000)) (hn : o.n2 ≤ 1000) (d : DvV) (p : PrV) (hd : 0 ≤ d.lo ∧ d.hi ≤ 1000) :
    Calls Tryz.prog 102 #[.pointer (some ⟨g, 0, none⟩), .agg #[.string d.nm, .int .i64 d.lo, .int .i64 d.hi], .agg #[.int .i64 p.rk, .int .i64 p.sh, .int .i64 p.lo, .int .i64 p.hi]] w fun e w' =>
      e = .returned (.int .i64 (prtE o.rs d p)) ∧ Below w.heap.size w w' := by
  have HE : Sl (prtE o.rs d p = if wiB p.rk 0 ((o.rs.length : Int) - 1) = false then 4 else if wiB p.lo d.lo d.hi && (wiB p.hi p.lo d.hi && wiB p.sh (-96) 96) then
    (if p.lo + p.sh < (o.rs[p.rk.toNat]?.getD rn0).lo ∨ (o.rs[p.rk.toNat]?.getD rn0).lo + (o.rs[p.rk.toNat]?.getD rn0).ct ≤ p.hi + p.sh then 4 else 0) else 7) := ⟨rfl⟩
  rw [hR.len] at HE; obtain ⟨r, hr⟩ : ∃ r, prtE o.rs d p = r := ⟨_, rfl⟩; rw [hr] at HE ⊢; clear hr; obtain ⟨dn, dl, dh⟩ := d; obtain ⟨rk, sh, lo, hi⟩ := p; simp only [] at HE hd ⊢; have hb1 := (Below.refl w.heap.size w).alloc (Nat.le_refl _) (.cells #[.string dn, .int .i64 dl, .int .i64 dh] 98); have hb2 := hb1.alloc hb1.size (.cells #[.int .i64 rk, .int .i64 sh, .int .i64 lo, .int .i64 hi] 102); have D1 := (Blk.new w 98 #[.string dn, .int .i64 dl, .int .i64 dh]).alloc (.cells #[.int .i64 rk, .int .i64 sh, .int .i64 lo, .int .i64 hi] 102); have P1 := Blk.new (w.alloc (.cells #[.string dn, .int .i64 dl, .int .i64 dh] 98)) 102 #[.int .i64 rk, .int .i64 sh, .int .i64 lo, .int .i64 hi]; have hsz : (w.alloc (.cells #[.string dn, .int .i64 dl, .int .i64 dh] 98)).heap.size = w.heap.size + 1 := (by simp); rw [hsz] at P1; have hC := h.below hb2; have hR2 := hR.below hb2; have cg : ((w.alloc (.cells #[.string dn, .int .i64 dl, .int .i64 dh] 98)).alloc (.cells #[.int .i64 rk, .int .i64 sh, .int .i64 lo, .int .i64 hi] 102)).cell? ⟨g, 1, none⟩ = some (.slice o.A2 o.n2 o.c2) := hC.blk.cell 1; have p0 : ((w.alloc (.cells #[.string dn, .int .i64 dl, .int .i64 dh] 98)).alloc (.cells #[.int .i64 rk, .int .i64 sh, .int .i64 lo, .int .i64 hi] 102)).cell? ⟨w.heap.size + 1, 0, none⟩ = some (.int .i64 rk) := P1.cell 0; have HB2 : Sl _ := ⟨hb2⟩; have HD1 : Sl _ := ⟨D1⟩; have HP1 : Sl _ := ⟨P1⟩; have HC : Sl _ := ⟨hC⟩; have HR : Sl _ := ⟨hR2⟩; have HRB : Sl _ := ⟨hrb⟩; have HND : Sl _ := ⟨hn⟩; clear hb1 hb2 D1 P1 hsz hC hR2 h hR hrb hn; obtain ⟨b0, hb0⟩ : ∃ b0, wiB rk 0 ((o.n2 : Int) - 1) = b0 := ⟨_, rfl⟩; rw [hb0] at HE; have HRK : Sl (b0 = true → 0 ≤ rk ∧ rk < (o.n2 : Int)) := ⟨fun h => by rw [← hb0] at h; unfold wiB at h; simp at h; omega⟩; go_enter Tryz.func102, Tryz.ntmps102; go_wp2_with fail; generalize (w.alloc (.cells #[.string dn, .int .i64 dl, .int .i64 dh] 98)).alloc (.cells #[.int .i64 rk, .int .i64 sh, .int .i64 lo, .int .i64 hi] 102) = wa at *
  have VA : Sl (∀ z, Calls Tryz.prog 138 #[.int .i64 rk, .int .i64 0, .int .i64 ((o.n2 : Int) - 1)] (wa.drewN z) fun e w'' => e = .returned (.bool b0) ∧ ∃ k, w'' = wa.drewN k) := ⟨fun z => (wi_any rk 0 ((o.n2 : Int) - 1) (wa.drewN z)).mono fun e w'' h => ⟨by rw [h.1, hb0], z, h.2⟩⟩; have hw1 : IntKind.i64.wrap ((o.n2 : Int) - 1) = (o.n2 : Int) - 1 := (by have := HND.out; rw [IntKind.wrap_i64]; omega); clear hb0
  go_quiet ((go_at_call 138; (with_reducible exact VA.out _)))
  clear VA hw1; have hq : Below wa.heap.size wa (wa.drewN nq) := below_drewN (Below.refl _ _) nq; replace HC : Sl _ := ⟨HC.out.below hq⟩; replace HR : Sl _ := ⟨HR.out.below hq⟩; replace HD1 : Sl _ := ⟨HD1.out.below hq HD1.out.lt⟩; replace HP1 : Sl _ := ⟨HP1.out.below hq HP1.out.lt⟩; replace HB2 : Sl _ := ⟨below_drewN HB2.out nq⟩; clear hq cg p0; generalize wa.drewN nq = wb at *
  cases b0 with
  | false =>
    go_wp2_with fail; go_ret; exact ⟨by rw [HE.out]; rfl, HB2.out⟩
  | true =>
    obtain ⟨k1, k2⟩ := HRK.out rfl; obtain ⟨k, rfl⟩ := Int.eq_ofNat_of_zero_le k1; obtain ⟨gb, oo, x, hA, hgb, hx, hra⟩ := HR.out.at_ (by omega) (i := k) (by omega); have hxb := HRB.out x (List.mem_of_getElem? hx); rw [show ((k : Int)).toNat = k from rfl, hx, Option.getD_some] at HE; replace HE : Sl (r = if wiB lo dl dh && (wiB hi lo dh && wiB sh (-96) 96) then (if lo + sh < x.lo ∨ x.lo + x.ct ≤ hi + sh then 4 else 0) else 7) := ⟨HE.out⟩; have HX : Sl _ := ⟨hxb⟩; have HRA : Sl _ := ⟨hra⟩; have HK : Sl (k < o.n2) := ⟨by omega⟩; have HDL : Sl _ := ⟨hd⟩; clear hx hxb hra k1 k2 hd HRK HRB; obtain ⟨b1, hb1⟩ : ∃ b1, wiB lo dl dh = b1 := ⟨_, rfl⟩; obtain ⟨b2, hb2⟩ : ∃ b2, wiB hi lo dh = b2 := ⟨_, rfl⟩; obtain ⟨b3, hb3⟩ : ∃ b3, wiB sh (-96) 96 = b3 := ⟨_, rfl⟩; rw [hb1, hb2, hb3] at HE; have HQ : Sl _ := ⟨And.intro hb1 (And.intro hb2 hb3)⟩
    have HBD : Sl (b1 = true → b2 = true → b3 = true → (0 ≤ lo ∧ hi ≤ 1000 ∧ lo ≤ hi) ∧ -96 ≤ sh ∧ sh ≤ 96) := ⟨fun h1 h2 h3 => by
      rw [h1] at hb1; rw [h2] at hb2; rw [h3] at hb3; unfold wiB at hb1 hb2 hb3; simp at hb1 hb2 hb3; have := HDL.out
      omega⟩
    clear hb1 hb2 hb3; have p0 := HP1.out.cell 0; have p1 := HP1.out.cell 1; have p2 := HP1.out.cell 2; have p3 := HP1.out.cell 3; have d1 := HD1.out.cell 1; have d2 := HD1.out.cell 2; simp at p0 p1 p2 p3 d1 d2; go_wp2_with fail; refine (wi_any lo dl dh wb).mono ?_; rintro e w2 ⟨rfl, hw2⟩; rw [hw2]; clear hw2 w2; rw [HQ.out.1]
    cases b1 with
    | false =>
      go_wp2_with fail; go_ret; exact ⟨by rw [HE.out]; rfl, HB2.out⟩
    | true =>
      go_wp2_with fail; refine (wi_any hi lo dh _).mono ?_; rintro e w2 ⟨rfl, hw2⟩; rw [hw2]; clear hw2 w2; rw [HQ.out.2.1]
      cases b2 with
      | false =>
        go_wp2_with fail; go_ret; exact ⟨by rw [HE.out]; rfl, HB2.out⟩
      | true =>
        go_wp2_with fail; refine (wi_any sh (-96) 96 _).mono ?_; rintro e w2 ⟨rfl, hw2⟩; rw [hw2]; clear hw2 w2; rw [HQ.out.2.2]
        cases b3 with
        | false =>
          go_wp2_with fail; go_ret; exact ⟨by rw [HE.out]; rfl, HB2.out⟩
        | true =>
          go_wp2_with fail; obtain ⟨⟨s1, s2, s3⟩, s4, s5⟩ := HBD.out (by simp) (by simp) (by simp); have HS : Sl _ := ⟨And.intro s1 (And.intro s2 (And.intro s3 (And.intro s4 s5)))⟩; have HK0 : Sl ((0 : Int) ≤ (k : Int) ∧ (k : Int) < (o.n2 : Int)) := ⟨by have := HK.out; omega⟩; clear p1 p2 p3 d1 d2 s1 s2 s3 s4 s5 p0; have hk1 := HK0.out.1; have hk2 := HK0.out.2; have hk3 := HK.out; have hbd : Below wb.heap.size wb wb.drew := below_drewN (Below.refl _ _) 1; have HBD2 : Sl _ := ⟨hbd⟩; clear hbd; have hm := HBD2.out; refine wp_region_held_drew (S := fun w' => Below wb.heap.size wb w') (by kernel_rfl) hm (fun hHeld => ?_); clear hm; refine hM 0 (v := .pointer (some ⟨g, 0, none⟩)) rfl rfl ?_; simp only [pS]; refine hS 1 (v := .pointer (some ⟨g, 0, none⟩)) rfl rfl ?_; simp only [pS]; refine hS 2 (v := .pointer (some ⟨g, 0, none⟩)) rfl rfl ?_; simp only [pS]; refine hS 3 (v := .pointer (some ⟨g, 1, none⟩)) rfl rfl ?_; simp only [pS]
          refine hC 4 (v := .slice (some ⟨gb, oo, none⟩) o.n2 o.c2) rfl rfl (fun w' h => by
            have hc := ((HC.out.below h).blk.cell 1).trans (show _ = some (.slice (some ⟨gb, oo, none⟩) o.n2 o.c2) by rw [← hA]; rfl)
            go_simp) ?_
          simp only [pS]; refine hS 5 (v := .pointer (some ⟨w.heap.size + 1, 0, none⟩)) rfl rfl ?_; simp only [pS]
          refine hC 6 (v := .int .i64 (k : Int)) rfl rfl (fun w' h => by
            have hc := (HP1.out.below h HP1.out.lt).cell 0
            go_simp) ?_
          simp only [pS]; refine hS 7 (v := .pointer (some ⟨gb, oo + k * 6, none⟩)) rfl rfl ?_; simp only [pS]
          refine hL 8 100 (.tmp 50) rfl rfl rfl gb (oo + k * 6) rfl #[.string x.nm, .int .i64 x.kd, .int .i64 x.fn, .int .i64 x.fd, .int .i64 x.lo, .int .i64 x.ct] _ (fun w' h => fun j v hv => by
            have hc := HRA.out j v hv
            exact (h.cell (p := ⟨gb, oo + k * 6 + j, none⟩) hgb).trans hc) Tryz.underlying100 rfl ?_
          simp only [pS]; refine hO 9 rfl rfl fun K hK => ?_; refine wp_alloc_newm 100 rfl _ alloc_rank ?_; rintro w5 gn zg zm zs zb; have hm5 : Below wb.heap.size wb w5 := HBD2.out.trans (zm.mono HBD2.out.size); have HM5 : Sl _ := ⟨hm5⟩; have GE : Sl (wb.heap.size ≤ gn) := ⟨by rw [zg]; exact Nat.le_refl _⟩; have NB : Sl _ := ⟨zb⟩; refine hK.out _ _ hm5 (fun hHeld => ?_); clear hK K zm zs zb hm5; simp only [pS]; refine hO 10 rfl rfl fun K hK => ?_; refine wp_store_partm 100 (.tmp 7) (.tmp 51) rfl gn 0 #[.string x.nm, .int .i64 x.kd, .int .i64 x.fn, .int .i64 x.fd, .int .i64 x.lo, .int .i64 x.ct] rfl rfl 100 _ #[.string x.nm, .int .i64 x.kd, .int .i64 x.fn, .int .i64 x.fd, .int .i64 x.lo, .int .i64 x.ct] NB.out (by simp) (putA_all _ _ rfl) (by kernel_rfl) (by simp [Value.oneCell']) ?_; rintro w6 zm zs zb; have hm6 : Below wb.heap.size wb w6 := below_mv HM5.out zm GE.out HM5.out.size; have HM6 : Sl _ := ⟨hm6⟩; have NB6 : Sl _ := ⟨zb⟩; refine hK.out _ _ hm6 (fun hHeld => ?_); clear hK K zm zs zb hm6 NB; simp only [pS]; refine wpAnyH_done (by kernel_rfl) ?_ _; clear hHeld hk1 hk2 hk3 zg; replace HB2 : Sl (Below w.heap.size w w6) := ⟨HB2.out.trans (HM6.out.mono HB2.out.size)⟩; replace HP1 : Sl _ := ⟨HP1.out.below HM6.out HP1.out.lt⟩; have p1 := HP1.out.cell 1; have p2 := HP1.out.cell 2; have p3 := HP1.out.cell 3; have r4 := NB6.out.cell 4; have r5 := NB6.out.cell 5; simp at p1 p2 p3 r4 r5; obtain ⟨s1, s2, s3, s4, s5⟩ := HS.out; obtain ⟨⟨u1, u2⟩, u3, u4⟩ := HX.out; obtain ⟨xl, hxl⟩ : ∃ xl, x.lo = xl := ⟨_, rfl⟩; obtain ⟨xc, hxc⟩ : ∃ xc, x.ct = xc := ⟨_, rfl⟩; rw [hxl] at HE r4 u1 u2; rw [hxc] at HE r5 u3 u4; clear hxl hxc
          by_cases q1 : lo + sh < xl
          · have q1d : decide (lo + sh < xl) = true := decide_eq_true q1; have HR2 : Sl (r = 4) := ⟨by rw [HE.out]; simp [q1]⟩; go_wp2_with fail; go_ret; exact ⟨by rw [HR2.out]; rfl, HB2.out⟩
          · have q1d : decide (lo + sh < xl) = false := decide_eq_false q1
            by_cases q2 : xl + xc ≤ hi + sh
            · have q2d : decide (xl + xc ≤ hi + sh) = true := decide_eq_true q2; have HR2 : Sl (r = 4) := ⟨by rw [HE.out]; simp [q2]⟩; go_wp2_with fail; go_ret; exact ⟨by rw [HR2.out]; rfl, HB2.out⟩
            · have q2d : decide (xl + xc ≤ hi + sh) = false := decide_eq_false q2; have HR2 : Sl (r = 0) := ⟨by rw [HE.out]; simp [q1, q2]⟩; go_wp2_with fail; go_ret; exact ⟨by rw [HR2.out]; rfl, HB2.out⟩
theorem coupler_any {w : World} {g b : Nat} {o : SpO} {l : Keys} (h : CK w g b o l) (x : CpV) (hn : l.length ≤ 1000000) (hnm : x.nm.size ≤ maxLen) (hnd : o.n1 ≤ 100) :
    Calls Tryz.prog 105 #[.pointer (some ⟨g, 0, none⟩), .agg #[.string x.nm, .int .i64 x.fr, .int .i64 x.tt, .int .i64 x.sh, .int .i64 x.on, .bool x.th]] w fun e w' =>
      e = .returned (.int .i64 (cplE o.n1 l x)) ∧ CK w' g b o (cplL l x) ∧ Mv b w w' := by
  have HE : Sl (cplE o.n1 l x = if nmdE l kCp x.nm = 0 then (if wiB x.fr 0 ((o.n1 : Int) - 1) && wiB x.tt 0 ((o.n1 : Int) - 1) then
    (if ((x.sh == -12) || ((x.sh == 12) || ((x.sh == 0) && (x.fr != x.tt)))) && (wiB x.on 0 2 && !(x.th && (x.on != 0))) then 0 else 2) else 4) else nmdE l kCp x.nm) := ⟨rfl⟩
  have HL : Sl (cplL l x = nmdL l kCp x.nm) := ⟨rfl⟩; rw [HL.out]; obtain ⟨r, hr⟩ : ∃ r, cplE o.n1 l x = r := ⟨_, rfl⟩; rw [hr] at HE ⊢; obtain ⟨nm, fr, tt, sh, on, th⟩ := x; simp only [] at HE HL hnm ⊢; have X0 := Blk.new w 93 #[.string nm, .int .i64 fr, .int .i64 tt, .int .i64 sh, .int .i64 on, .bool th]; have hbl := (Below.refl w.heap.size w).alloc (Nat.le_refl _) (.cells #[.string nm, .int .i64 fr, .int .i64 tt, .int .i64 sh, .int .i64 on, .bool th] 93); have hC := h.alloc (.cells #[.string nm, .int .i64 fr, .int .i64 tt, .int .i64 sh, .int .i64 on, .bool th] 93); have HX : Sl _ := ⟨X0⟩; have HBL : Sl _ := ⟨hbl⟩; have HLT : Sl _ := ⟨h.nm.lt⟩; have HN : Sl _ := ⟨named_all hC kCp nm (by decide) hn hnm⟩; have HND : Sl _ := ⟨hnd⟩; clear X0 hbl hC h hnm hr HL hnd hn; obtain ⟨z, hz⟩ : ∃ z, nmdE l kCp nm = z := ⟨_, rfl⟩; rw [hz] at HE HN; clear hz; unfold kCp at HN ⊢
  by_cases hz0 : z = 0
  · subst hz0; rw [if_pos rfl] at HE; go_enter Tryz.func105, Tryz.ntmps105; go_wp2_with fail; refine HN.out.mono ?_; rintro e w1 ⟨rfl, hC1, hm1⟩; have HC1 : Sl _ := ⟨hC1⟩; have HMM : Sl _ := ⟨Mv.trans (Mv.below HBL.out) hm1⟩; have X1 : Sl (Blk w1 w.heap.size 93 #[.string nm, .int .i64 fr, .int .i64 tt, .int .i64 sh, .int .i64 on, .bool th]) := ⟨HX.out.mv hm1 (by have := HLT.out; omega)⟩; have x1 := X1.out.cell 1; have x2 := X1.out.cell 2; have x3 := X1.out.cell 3; have x4 := X1.out.cell 4; have x5 := X1.out.cell 5; have xd := HC1.out.blk.cell 0; simp at x1 x2 x3 x4 x5 xd; have hw1 : IntKind.i64.wrap ((o.n1 : Int) - 1) = (o.n1 : Int) - 1 := (by have := HND.out; rw [IntKind.wrap_i64]; omega); clear hC1 hm1; obtain ⟨b1, hb1⟩ : ∃ b1, wiB fr 0 ((o.n1 : Int) - 1) = b1 := ⟨_, rfl⟩; obtain ⟨b2, hb2⟩ : ∃ b2, wiB tt 0 ((o.n1 : Int) - 1) = b2 := ⟨_, rfl⟩; obtain ⟨b3, hb3⟩ : ∃ b3, wiB on 0 2 = b3 := ⟨_, rfl⟩; obtain ⟨c1, hc1⟩ : ∃ c1, (sh == -12) = c1 := ⟨_, rfl⟩; obtain ⟨c2, hc2⟩ : ∃ c2, (sh == 12) = c2 := ⟨_, rfl⟩; obtain ⟨c3, hc3⟩ : ∃ c3, (sh == 0) = c3 := ⟨_, rfl⟩; obtain ⟨c4, hc4⟩ : ∃ c4, (fr != tt) = c4 := ⟨_, rfl⟩; obtain ⟨c5, hc5⟩ : ∃ c5, (on != 0) = c5 := ⟨_, rfl⟩; rw [hb1, hb2, hb3, hc1, hc2, hc3, hc4, hc5] at HE; have HQ : Sl _ := ⟨And.intro hb1 (And.intro hb2 hb3)⟩; have HC5 : Sl _ := ⟨And.intro hc1 (And.intro hc2 (And.intro hc3 (And.intro hc4 hc5)))⟩; clear hb1 hb2 hb3 hc1 hc2 hc3 hc4 hc5; go_wp2_with fail; refine (wi_any fr 0 ((o.n1 : Int) - 1) w1).mono ?_; rintro e w2 ⟨rfl, rfl⟩; rw [HQ.out.1]
    cases b1 with
    | false =>
      go_wp2_with fail; go_ret; exact ⟨by rw [HE.out]; rfl, HC1.out, HMM.out⟩
    | true =>
      go_wp2_with fail; refine (wi_any tt 0 ((o.n1 : Int) - 1) _).mono ?_; rintro e w3 ⟨rfl, rfl⟩; rw [HQ.out.2.1]
      cases b2 with
      | false =>
        go_wp2_with fail; go_ret; exact ⟨by rw [HE.out]; rfl, HC1.out, HMM.out⟩
      | true =>
        have hc1 := HC5.out.1
        cases c1 with
        | false =>
          have hc2 := HC5.out.2.1
          cases c2 with
          | false =>
            have hc3 := HC5.out.2.2.1
            cases c3 with
            | false =>
              go_wp2_with fail; go_ret; exact ⟨by rw [HE.out]; rfl, HC1.out, HMM.out⟩
            | true =>
              have hc4 := HC5.out.2.2.2.1
              cases c4 with
              | false =>
                go_wp2_with fail; go_ret; exact ⟨by rw [HE.out]; rfl, HC1.out, HMM.out⟩
              | true =>
                go_wp2_with fail; refine (wi_any on 0 2 _).mono ?_; rintro e w4 ⟨rfl, rfl⟩; rw [HQ.out.2.2]
                cases b3 with
                | false =>
                  go_wp2_with fail; go_ret; exact ⟨by rw [HE.out]; rfl, HC1.out, HMM.out⟩
                | true =>
                  cases th with
                  | false =>
                    go_wp2_with fail; go_ret; exact ⟨by rw [HE.out]; rfl, HC1.out, HMM.out⟩
                  | true =>
                    have hc5 := HC5.out.2.2.2.2
                    cases c5 with
                    | false =>
                      go_wp2_with fail; go_ret; exact ⟨by rw [HE.out]; rfl, HC1.out, HMM.out⟩
                    | true =>
                      go_wp2_with fail; go_ret; exact ⟨by rw [HE.out]; rfl, HC1.out, HMM.out⟩
          | true =>
            go_wp2_with fail; refine (wi_any on 0 2 _).mono ?_; rintro e w4 ⟨rfl, rfl⟩; rw [HQ.out.2.2]
            cases b3 with
            | false =>
              go_wp2_with fail; go_ret; exact ⟨by rw [HE.out]; rfl, HC1.out, HMM.out⟩
            | true =>
              cases th with
              | false =>
                go_wp2_with fail; go_ret; exact ⟨by rw [HE.out]; rfl, HC1.out, HMM.out⟩
              | true =>
                have hc5 := HC5.out.2.2.2.2
                cases c5 with
                | false =>
                  go_wp2_with fail; go_ret; exact ⟨by rw [HE.out]; rfl, HC1.out, HMM.out⟩
                | true =>
                  go_wp2_with fail; go_ret; exact ⟨by rw [HE.out]; rfl, HC1.out, HMM.out⟩
        | true =>
          go_wp2_with fail; refine (wi_any on 0 2 _).mono ?_; rintro e w4 ⟨rfl, rfl⟩; rw [HQ.out.2.2]
          cases b3 with
          | false =>
            go_wp2_with fail; go_ret; exact ⟨by rw [HE.out]; rfl, HC1.out, HMM.out⟩
          | true =>
            cases th with
            | false =>
              go_wp2_with fail; go_ret; exact ⟨by rw [HE.out]; rfl, HC1.out, HMM.out⟩
            | true =>
              have hc5 := HC5.out.2.2.2.2
              cases c5 with
              | false =>
                go_wp2_with fail; go_ret; exact ⟨by rw [HE.out]; rfl, HC1.out, HMM.out⟩
              | true =>
                go_wp2_with fail; go_ret; exact ⟨by rw [HE.out]; rfl, HC1.out, HMM.out⟩
  · rw [if_neg hz0] at HE; have q0 : (z != 0) = true := (by rw [bne_iff_ne]; exact hz0); clear hz0; go_enter Tryz.func105, Tryz.ntmps105; go_wp2_with fail; refine HN.out.mono ?_; rintro e w1 ⟨rfl, hC1, hm1⟩; have HC1 : Sl _ := ⟨hC1⟩; have HM1 : Sl _ := ⟨hm1⟩; clear hC1 hm1; go_wp2_with fail; go_ret; exact ⟨by rw [HE.out]; rfl, HC1.out, Mv.trans (Mv.below HBL.out) HM1.out⟩
theorem results_row2c {P : Program} {fn : Func} {p u : Tmp} {ty : TypeId} (h : fn.results = #[.cell p ty, .tmp u]) (tmps : Array Value) (w : World) (g : Nat) (t : TypeId) (cs : Array Value) (d : TypeDesc)
    (hp : tmps.getD p undef = .pointer (some ⟨g, 0, none⟩)) (hg : Blk w g t cs)
    (hu : P.underlying ty = some d) (hd : (match d with | .struct _ | .array _ _ => true | _ => false) = true) (hi : (P.info? ty).map (·.size) = some cs.size) :
    (results fn tmps).run P w = .ok (.tuple #[.agg cs, tmps.getD u undef]) w := by
  rw [results_cell_tmp h, hp]; simp [asAddr, run_loadVar_row w g t ty cs (0, 0) d hg hu hd hi, Result.andThen]
structure Led (w W : World) (l : List (Nat × TypeId × Array Value)) : Prop where
  bl : Below w.heap.size w W
  all : ∀ p ∈ l, Blk W p.1 p.2.1 p.2.2
  ge : ∀ p ∈ l, w.heap.size ≤ p.1
theorem Led.nil (w : World) : Led w w [] := ⟨Below.refl _ _, fun p hp => (by cases hp), fun p hp => (by cases hp)⟩
theorem Led.at_ {w W : World} {l : List (Nat × TypeId × Array Value)} (h : Led w W l) (k : Nat) {g : Nat} {t : TypeId} {cs : Array Value} (hk : l[k]? = some (g, t, cs)) : Blk W g t cs := h.all _ (List.mem_of_getElem? hk)
theorem Led.below {w W W' : World} {l : List (Nat × TypeId × Array Value)} (h : Led w W l) (hb : Below W.heap.size W W') : Led w W' l :=
  ⟨h.bl.trans (hb.mono h.bl.size), fun p hp => (h.all p hp).below hb (h.all p hp).lt, h.ge⟩
theorem Led.mv {w W W' : World} {g : Nat} {l : List (Nat × TypeId × Array Value)} (h : Led w W l) (hm : Mv g W W') (hg : w.heap.size ≤ g) (hne : ∀ p ∈ l, p.1 ≠ g) : Led w W' l :=
  ⟨below_mv h.bl hm hg h.bl.size, fun p hp => (h.all p hp).mv hm (hne p hp), h.ge⟩
theorem Led.new {w W W' : World} {g : Nat} {t : TypeId} {cs : Array Value} {l : List (Nat × TypeId × Array Value)} (h : Led w W l) (zg : g = W.heap.size) (zm : Mv W.heap.size W W') (zb : Blk W' g t cs) : Led w W' ((g, t, cs) :: l) := by
  have hs := h.bl.size; have h1 : Led w W' l := h.mv zm hs (fun p hp => by have := (h.all p hp).lt; omega); refine ⟨h1.bl, fun p hp => ?_, fun p hp => ?_⟩
  · rcases List.mem_cons.1 hp with rfl | hp
    · exact zb
    · exact h1.all p hp
  · rcases List.mem_cons.1 hp with rfl | hp
    · show w.heap.size ≤ g; omega
    · exact h1.ge p hp
theorem Led.drop {w W : World} {p : Nat × TypeId × Array Value} {l : List (Nat × TypeId × Array Value)} (h : Led w W (p :: l)) : Led w W l :=
  ⟨h.bl, fun q hq => h.all q (List.mem_cons_of_mem _ hq), fun q hq => h.ge q (List.mem_cons_of_mem _ hq)⟩
structure CHP (w W : World) (o : SpO) (g b gs gr gc : Nat) (l : Keys) : Prop where
  ck : CK W g b o l
  ld : Led w W [(gs, 33, #[.slice o.A1 o.n1 o.c1, .slice o.A2 o.n2 o.c2, .slice o.A3 o.n3 o.c3, .slice o.A4 o.n4 o.c4]), (gr, 72, #[.int .i64 0, .int .i64 0, .int .i64 0]), (gc, 161, #[.pointer (some ⟨g, 0, none⟩)])]
  nb : w.heap.size ≤ b ∧ gs ≠ b ∧ gr ≠ b ∧ gc ≠ b
theorem CHP.step {w W W' : World} {o : SpO} {g b gs gr gc : Nat} {l l' : Keys} (h : CHP w W o g b gs gr gc l) (hc : CK W' g b o l') (hm : Mv b W W') : CHP w W' o g b gs gr gc l' :=
  ⟨hc, h.ld.mv hm h.nb.1 (fun p hp => by
    simp only [List.mem_cons, List.not_mem_nil, or_false] at hp; rcases hp with rfl | rfl | rfl
    · exact h.nb.2.1
    · exact h.nb.2.2.1
    · exact h.nb.2.2.2), h.nb⟩
theorem CHP.below {w W W' : World} {o : SpO} {g b gs gr gc : Nat} {l : Keys} (h : CHP w W o g b gs gr gc l) (hb : Below W.heap.size W W') : CHP w W' o g b gs gr gc l := ⟨h.ck.below hb, h.ld.below hb, h.nb⟩
theorem CHP.alloc {w W : World} {o : SpO} {g b gs gr gc : Nat} {l : Keys} (h : CHP w W o g b gs gr gc l) (ob : Obj) : CHP w (W.alloc ob) o g b gs gr gc l := h.below ((Below.refl _ _).alloc (Nat.le_refl _) ob)
theorem chk1_any {w0 w : World} {g b gs gr gc : Nat} {o : SpO} {l : Keys} (h : CHP w0 w o g b gs gr gc l) (hD : RowG w o.A1 o.n1 3 DvV.cells o.ds) (hR : RowG w o.A2 o.n2 6 RnV.cells o.rs) (hrb : ∀ r ∈ o.rs, (0 ≤ r.lo ∧ r.lo ≤ 1000) ∧ (0 ≤ r.ct ∧ r.ct ≤ 1000)) (hn : o.n2 ≤ 1000)
    (hdb : ∀ d ∈ o.ds, 0 ≤ d.lo ∧ d.hi ≤ 1000) (gx : Nat) (s0 s2 s3 s4 : Value) (dv : Nat) (hdv : dv < o.n1) (hn1 : o.n1 ≤ 1000) (hX : Blk w gx 90 #[s0, .int .i64 (dv : Int), s2, s3, s4]) (p : PrV) :
    Calls Tryz.prog 101 #[.agg #[.int .i64 p.rk, .int .i64 p.sh, .int .i64 p.lo, .int .i64 p.hi], .pointer (some ⟨gc, 0, none⟩), .pointer (some ⟨gs, 0, none⟩), .pointer (some ⟨gx, 0, none⟩)] w fun e w' =>
      e = .returned (.int .i64 (prtE o.rs (o.ds[dv]?.getD dv0) p)) ∧ Below w.heap.size w w' := by
  obtain ⟨gb, oo, d, hA, hgb, hx, hra⟩ := hD.at_ (by omega) hdv; have HA : Sl _ := ⟨hA⟩; have hdd := hdb d (List.mem_of_getElem? hx); rw [hx, Option.getD_some]; have hb1 := (Below.refl w.heap.size w).alloc (Nat.le_refl _) (.cells #[.int .i64 p.rk, .int .i64 p.sh, .int .i64 p.lo, .int .i64 p.hi] 102); have P1 := Blk.new w 102 #[.int .i64 p.rk, .int .i64 p.sh, .int .i64 p.lo, .int .i64 p.hi]; have hC := h.below hb1; have HP : Sl _ := ⟨P1⟩; have HX : Sl _ := ⟨hX.below hb1 hX.lt⟩; have HC : Sl _ := ⟨hC⟩; have HRA : Sl (∀ j v, d.cells[j]? = some v → (w.alloc (.cells #[.int .i64 p.rk, .int .i64 p.sh, .int .i64 p.lo, .int .i64 p.hi] 102)).cell? ⟨gb, oo + dv * 3 + j, none⟩ = some v) := ⟨fun j v hv => (hb1.cell (p := ⟨gb, oo + dv * 3 + j, none⟩) hgb).trans (hra j v hv)⟩; have HGB : Sl (gb < (w.alloc (.cells #[.int .i64 p.rk, .int .i64 p.sh, .int .i64 p.lo, .int .i64 p.hi] 102)).heap.size) := ⟨by have := hb1.size; omega⟩; have HR2 := hR.below hb1; have HQ : Sl _ := ⟨fun (W : World) (hW : Below (w.alloc (.cells #[.int .i64 p.rk, .int .i64 p.sh, .int .i64 p.lo, .int .i64 p.hi] 102)).heap.size (w.alloc (.cells #[.int .i64 p.rk, .int .i64 p.sh, .int .i64 p.lo, .int .i64 p.hi] 102)) W) => part_any (hC.ck.below hW) (HR2.below hW) hrb hn d p hdd⟩; have HB1 : Sl _ := ⟨hb1⟩; have hdn : (0 : Int) ≤ (dv : Int) ∧ (dv : Int) < (o.n1 : Int) := (by omega); have HDN : Sl _ := ⟨hdn⟩; have HDV : Sl _ := ⟨hdv⟩; obtain ⟨z, hz⟩ : ∃ z, prtE o.rs d p = z := ⟨_, rfl⟩; rw [hz] at HQ ⊢; clear hz hx hra hdd hb1 P1 hC HR2 hdn hdv h hD hR hrb hn hdb hX hA hgb; go_enter Tryz.func101, Tryz.ntmps101; go_wp2_with fail; generalize w.alloc (.cells #[.int .i64 p.rk, .int .i64 p.sh, .int .i64 p.lo, .int .i64 p.hi] 102) = wa at *
  have hbd : Below wa.heap.size wa wa.drew := below_drewN (Below.refl _ _) 1; have HBD : Sl _ := ⟨hbd⟩; clear hbd; have hk1 := HDN.out.1; have hk2 := HDN.out.2; have hk3 := HDV.out; have hm := HBD.out; refine wp_region_held_drew (S := fun w' => Below wa.heap.size wa w') (by kernel_rfl) hm (fun hHeld => ?_); clear hm
  refine hC 0 (v := .pointer (some ⟨g, 0, none⟩)) rfl rfl (fun w' h => by
    have hc := ((HC.out.below h).ld.at_ 2 rfl).cell 0
    go_simp) ?_
  simp only [pS]; refine hS 1 (v := .pointer (some ⟨gs, 0, none⟩)) rfl rfl ?_; simp only [pS]
  refine hC 2 (v := .slice (some ⟨gb, oo, none⟩) o.n1 o.c1) rfl rfl (fun w' h => by
    have hc := (((HC.out.below h).ld.at_ 0 rfl).cell 0).trans (show _ = some (.slice (some ⟨gb, oo, none⟩) o.n1 o.c1) by rw [← HA.out]; rfl)
    go_simp) ?_
  simp only [pS]; refine hS 3 (v := .pointer (some ⟨gx, 1, none⟩)) rfl rfl ?_; simp only [pS]
  refine hC 4 (v := .int .i64 (dv : Int)) rfl rfl (fun w' h => by
    have hc := (HX.out.below h HX.out.lt).cell 1
    go_simp) ?_
  simp only [pS]; refine hS 5 (v := .pointer (some ⟨gb, oo + dv * 3, none⟩)) rfl rfl ?_; simp only [pS]
  refine hL 6 98 (.tmp 11) rfl rfl rfl gb (oo + dv * 3) rfl #[.string d.nm, .int .i64 d.lo, .int .i64 d.hi] _ (fun w' h => fun j v hv => by
    have hc := HRA.out j v hv
    exact (h.cell (p := ⟨gb, oo + dv * 3 + j, none⟩) HGB.out).trans hc) Tryz.underlying98 rfl ?_
  simp only [pS]
  refine hL 7 102 (.tmp 4) rfl rfl rfl w.heap.size 0 rfl #[.int .i64 p.rk, .int .i64 p.sh, .int .i64 p.lo, .int .i64 p.hi] _ (fun w' h => by
    have := World.rangeAt_of_block (HP.out.below h HP.out.lt) 0 4
    exact this) Tryz.underlying102 rfl ?_
  simp only [pS]; refine hO 8 rfl rfl fun K hK => ?_; go_simp; go_at_call 102
  (with_reducible refine (HQ.out wa.drew HBD.out).mono ?_)
  rintro e4 w4 ⟨rfl, hb4⟩; have hb5 : Below wa.heap.size wa w4 := HBD.out.trans (hb4.mono HBD.out.size); have HB3 : Sl _ := ⟨hb5⟩; clear hb4 hb5; refine hK.out _ _ HB3.out (fun hHeld => ?_); clear hK K
  (try simp only [pS])
  refine hM 9 (v := .int .i64 z) rfl rfl ?_; simp only [pS]; refine wpAnyH_done (by kernel_rfl) ?_ _; clear hk1 hk2 hk3 hHeld; go_wp2_with fail; go_ret; exact ⟨rfl, HB1.out.trans (HB3.out.mono HB1.out.size)⟩
theorem Led.upd {w W W' : World} {g : Nat} {t t' : TypeId} {cs cs' : Array Value} {l : List (Nat × TypeId × Array Value)} (h : Led w W ((g, t, cs) :: l)) (hm : Mv g W W') (zb : Blk W' g t' cs') (hne : ∀ p ∈ l, p.1 ≠ g) : Led w W' ((g, t', cs') :: l) := by
  have hg := h.ge _ List.mem_cons_self; have h1 := h.drop.mv hm hg hne; refine ⟨h1.bl, fun p hp => ?_, fun p hp => ?_⟩
  · rcases List.mem_cons.1 hp with rfl | hp
    · exact zb
    · exact h1.all p hp
  · rcases List.mem_cons.1 hp with rfl | hp
    · exact hg
    · exact h1.ge p hp
theorem Led.sub {w W : World} {l l' : List (Nat × TypeId × Array Value)} (h : Led w W l) (hs : ∀ p ∈ l', p ∈ l) : Led w W l' := ⟨h.bl, fun p hp => h.all p (hs p hp), fun p hp => h.ge p (hs p hp)⟩
def SpecR (o : SpO) (e : Ending) : Prop := ∃ a b c : Int, e = .returned (.tuple #[.agg #[.int .i64 a, .int .i64 b, .int .i64 c], .int .i64 (specE o)])
theorem runE_all {α : Type} {f : Keys → α → Int} {g : Keys → α → Keys} : ∀ {L : List α} {l : Keys}, (runE f g L l).1 = 0 → ∀ x ∈ L, ∃ l', f l' x = 0
  | [], l, _, x, hx => by cases hx
  | y :: L, l, h, x, hx => by
    rw [runE] at h
    by_cases hf : f l y = 0
    · rw [if_pos hf] at h; rcases List.mem_cons.1 hx with rfl | hx
      · exact ⟨l, hf⟩
      · exact runE_all h x hx
    · rw [if_neg hf] at h; exact absurd h hf
theorem divE_bd {l : Keys} {x : DvV} (h : divE l x = 0) : 0 ≤ x.lo ∧ x.hi ≤ 1000 := by
  unfold divE at h
  split at h
  · split at h
    · rename_i h1; unfold wiB at h1; simp at h1; omega
    · cases h
  · rename_i h1; exact absurd h h1
theorem rnkE_bd {l : Keys} {x : RnV} (h : rnkE l x = 0) : (0 ≤ x.lo ∧ x.lo ≤ 1000) ∧ (0 ≤ x.ct ∧ x.ct ≤ 1000) := by
  unfold rnkE at h
  split at h
  · split at h
    · split at h
      · rename_i h1; unfold wiB at h1; simp at h1; omega
      · cases h
    · cases h
  · rename_i h1; exact absurd h h1
theorem stpE_bd {nd : Nat} {l : Keys} {x : SpV} (h : stpE nd l x = 0) : (0 ≤ x.dv ∧ x.dv < (nd : Int)) ∧ x.n ≤ 12 := by
  unfold stpE at h
  split at h
  · cases h
  · split at h
    · cases h
    · rename_i h1; unfold wiB at h1; simp at h1
      split at h
      · split at h
        · cases h
        · split at h
          · cases h
          · omega
      · rename_i h2; exact absurd h h2
theorem alloc_fault (w : World) : (Instr.alloc 72 true (.tuple #[])).run Tryz.prog w = .ok (.pointer (some ⟨w.heap.size, 0, none⟩)) (w.alloc (.cells #[.int .i64 0, .int .i64 0, .int .i64 0] 72)) := by kernel_rfl
theorem alloc_ckp (w : World) : (Instr.alloc 161 true (.tuple #[])).run Tryz.prog w = .ok (.pointer (some ⟨w.heap.size, 0, none⟩)) (w.alloc (.cells #[.pointer none] 161)) := by kernel_rfl
theorem alloc_stop (w : World) : (Instr.alloc 90 true (.tuple #[])).run Tryz.prog w = .ok (.pointer (some ⟨w.heap.size, 0, none⟩)) (w.alloc (.cells #[.string ⟨#[]⟩, .int .i64 0, .int .i64 0, .int .i64 0, .slice none 0 0] 90)) := by kernel_rfl
theorem speccheck_any (o : SpO) (w : World) (hM : SpM w o) (hF : SpF o) : Calls Tryz.prog 38 #[.agg #[.slice o.A1 o.n1 o.c1, .slice o.A2 o.n2 o.c2, .slice o.A3 o.n3 o.c3, .slice o.A4 o.n4 o.c4]] w fun e w' => SpecR o e ∧ Below w.heap.size w w' := by
  unfold SpecR
  have HE : Sl (specE o = if 6 < o.n1 ∨ 40 < o.n2 ∨ 80 < o.n3 ∨ 24 < o.n4 then 3
    else if (runE divE divL o.ds []).1 = 0 then
      (if (runE rnkE rnkL o.rs (runE divE divL o.ds []).2).1 = 0 then
        (if (runE (stpsE o) (stpL o.n1) o.ss (runE rnkE rnkL o.rs (runE divE divL o.ds []).2).2).1 = 0 then (runE (cplE o.n1) cplL o.cs (runE (stpsE o) (stpL o.n1) o.ss (runE rnkE rnkL o.rs (runE divE divL o.ds []).2).2).2).1 else (runE (stpsE o) (stpL o.n1) o.ss (runE rnkE rnkL o.rs (runE divE divL o.ds []).2).2).1)
      else (runE rnkE rnkL o.rs (runE divE divL o.ds []).2).1)
    else (runE divE divL o.ds []).1) := ⟨rfl⟩
  obtain ⟨r, hr⟩ : ∃ r, specE o = r := ⟨_, rfl⟩; rw [hr] at HE ⊢; have HM : Sl _ := ⟨hM⟩; have HF : Sl _ := ⟨hF⟩; have hcap := hF.cap; unfold maxLen at hcap; have HCAP : Sl _ := ⟨hcap⟩; have HD : Sl (Led w w []) := ⟨Led.nil w⟩; have hmf : ∀ (fn : Fn) (first cap : Array Value) (w : World), (Instr.makeFunc fn first cap).run Tryz.prog w = .ok (.func fn first cap) w := fun _ _ _ _ => rfl
  have hmm := @run_makeMap Tryz.prog; clear hM hF hr hcap; go_enter Tryz.func38, Tryz.ntmps38
  go_upto_region 1 with ((with_reducible show wpList _ _ _ _ _ _); first
    | (refine wpList_box_new 1 rfl rfl 33 (.tmp 0) rfl #[.slice o.A1 o.n1 o.c1, .slice o.A2 o.n2 o.c2, .slice o.A3 o.n3 o.c3, .slice o.A4 o.n4 o.c4] rfl (fun _ => by kernel_rfl) ?_; rintro ws gs zg zm zs zb; replace HD : Sl _ := ⟨HD.out.new zg zm zb⟩; have HGS : Sl _ := ⟨And.intro zg zs⟩; clear zg zm zs zb)
    | (refine wpList_alloc_new 2 rfl rfl 72 rfl #[.int .i64 0, .int .i64 0, .int .i64 0] alloc_fault ?_; rintro wr gr zg zm zs zb; replace HD : Sl (Led w wr [(gr, 72, #[.int .i64 0, .int .i64 0, .int .i64 0]), (gs, 33, #[.slice o.A1 o.n1 o.c1, .slice o.A2 o.n2 o.c2, .slice o.A3 o.n3 o.c3, .slice o.A4 o.n4 o.c4])]) := ⟨HD.out.new zg zm zb⟩; have HGR : Sl _ := ⟨And.intro zg zs⟩; clear zg zm zs zb))
  have HGE : Sl (w.heap.size ≤ gr) := ⟨HD.out.ge _ List.mem_cons_self⟩; have s0 := (HD.out.at_ 1 rfl).cell 0; have s1 := (HD.out.at_ 1 rfl).cell 1; have s2 := (HD.out.at_ 1 rfl).cell 2; have s3 := (HD.out.at_ 1 rfl).cell 3; simp at s0 s1 s2 s3
  by_cases h1 : 6 < o.n1
  · have q1 : (6 : Int) < (o.n1 : Int) := (by omega); have q1d : decide ((6 : Int) < (o.n1 : Int)) = true := decide_eq_true q1; have HR : Sl (r = 3) := ⟨by rw [HE.out, if_pos (.inl h1)]⟩; clear HCAP HE
    go_wp2_with ((with_reducible show wpList _ _ _ _ _ _); first
      | (refine wpList_store_whole rfl 72 (.tmp 2) (.tmp 39) rfl gr #[.int .i64 0, .int .i64 0, .int .i64 0] rfl rfl 72 _ (HD.out.at_ 0 rfl) rfl (by kernel_rfl) (by simp [Value.oneCell']) ?_; rintro wz zm zs zb; have HZ : Sl _ := ⟨And.intro zm zb⟩; clear zm zs zb))
    (try simp only [Exit.inBlock, Exit.then])
    refine bodyPost_ret (results_row2c rfl _ _ gr _ _ _ rfl HZ.out.2 Tryz.underlying72 rfl (by kernel_rfl)) rfl ?_; exact ⟨⟨_, _, _, by rw [HR.out]; rfl⟩, below_mv HD.out.bl HZ.out.1 HGE.out HD.out.bl.size⟩
  have q1 : ¬ (6 : Int) < (o.n1 : Int) := (by omega); have q1d : decide ((6 : Int) < (o.n1 : Int)) = false := decide_eq_false q1
  by_cases h2 : 40 < o.n2
  · have q2 : (40 : Int) < (o.n2 : Int) := (by omega); have q2d : decide ((40 : Int) < (o.n2 : Int)) = true := decide_eq_true q2; have HR : Sl (r = 3) := ⟨by rw [HE.out, if_pos (.inr (.inl h2))]⟩; clear HCAP HE
    go_wp2_with ((with_reducible show wpList _ _ _ _ _ _); first
      | (refine wpList_store_whole rfl 72 (.tmp 2) (.tmp 39) rfl gr #[.int .i64 0, .int .i64 0, .int .i64 0] rfl rfl 72 _ (HD.out.at_ 0 rfl) rfl (by kernel_rfl) (by simp [Value.oneCell']) ?_; rintro wz zm zs zb; have HZ : Sl _ := ⟨And.intro zm zb⟩; clear zm zs zb))
    (try simp only [Exit.inBlock, Exit.then])
    refine bodyPost_ret (results_row2c rfl _ _ gr _ _ _ rfl HZ.out.2 Tryz.underlying72 rfl (by kernel_rfl)) rfl ?_; exact ⟨⟨_, _, _, by rw [HR.out]; rfl⟩, below_mv HD.out.bl HZ.out.1 HGE.out HD.out.bl.size⟩
  have q2 : ¬ (40 : Int) < (o.n2 : Int) := (by omega); have q2d : decide ((40 : Int) < (o.n2 : Int)) = false := decide_eq_false q2
  by_cases h3 : 80 < o.n3
  · have q3 : (80 : Int) < (o.n3 : Int) := (by omega); have q3d : decide ((80 : Int) < (o.n3 : Int)) = true := decide_eq_true q3; have HR : Sl (r = 3) := ⟨by rw [HE.out, if_pos (.inr (.inr (.inl h3)))]⟩; clear HCAP HE
    go_wp2_with ((with_reducible show wpList _ _ _ _ _ _); first
      | (refine wpList_store_whole rfl 72 (.tmp 2) (.tmp 39) rfl gr #[.int .i64 0, .int .i64 0, .int .i64 0] rfl rfl 72 _ (HD.out.at_ 0 rfl) rfl (by kernel_rfl) (by simp [Value.oneCell']) ?_; rintro wz zm zs zb; have HZ : Sl _ := ⟨And.intro zm zb⟩; clear zm zs zb))
    (try simp only [Exit.inBlock, Exit.then])
    refine bodyPost_ret (results_row2c rfl _ _ gr _ _ _ rfl HZ.out.2 Tryz.underlying72 rfl (by kernel_rfl)) rfl ?_; exact ⟨⟨_, _, _, by rw [HR.out]; rfl⟩, below_mv HD.out.bl HZ.out.1 HGE.out HD.out.bl.size⟩
  have q3 : ¬ (80 : Int) < (o.n3 : Int) := (by omega); have q3d : decide ((80 : Int) < (o.n3 : Int)) = false := decide_eq_false q3
  by_cases h4 : 24 < o.n4
  · have q4 : (24 : Int) < (o.n4 : Int) := (by omega); have q4d : decide ((24 : Int) < (o.n4 : Int)) = true := decide_eq_true q4; have HR : Sl (r = 3) := ⟨by rw [HE.out, if_pos (.inr (.inr (.inr h4)))]⟩; clear HCAP HE
    go_wp2_with ((with_reducible show wpList _ _ _ _ _ _); first
      | (refine wpList_store_whole rfl 72 (.tmp 2) (.tmp 39) rfl gr #[.int .i64 0, .int .i64 0, .int .i64 0] rfl rfl 72 _ (HD.out.at_ 0 rfl) rfl (by kernel_rfl) (by simp [Value.oneCell']) ?_; rintro wz zm zs zb; have HZ : Sl _ := ⟨And.intro zm zb⟩; clear zm zs zb))
    (try simp only [Exit.inBlock, Exit.then])
    refine bodyPost_ret (results_row2c rfl _ _ gr _ _ _ rfl HZ.out.2 Tryz.underlying72 rfl (by kernel_rfl)) rfl ?_; exact ⟨⟨_, _, _, by rw [HR.out]; rfl⟩, below_mv HD.out.bl HZ.out.1 HGE.out HD.out.bl.size⟩
  have q4 : ¬ (24 : Int) < (o.n4 : Int) := (by omega); have q4d : decide ((24 : Int) < (o.n4 : Int)) = false := decide_eq_false q4; have HN : Sl (o.n1 ≤ 6 ∧ o.n2 ≤ 40 ∧ o.n3 ≤ 80 ∧ o.n4 ≤ 24) := ⟨by omega⟩
  replace HE : Sl (r = if (runE divE divL o.ds []).1 = 0 then
      (if (runE rnkE rnkL o.rs (runE divE divL o.ds []).2).1 = 0 then
        (if (runE (stpsE o) (stpL o.n1) o.ss (runE rnkE rnkL o.rs (runE divE divL o.ds []).2).2).1 = 0 then (runE (cplE o.n1) cplL o.cs (runE (stpsE o) (stpL o.n1) o.ss (runE rnkE rnkL o.rs (runE divE divL o.ds []).2).2).2).1 else (runE (stpsE o) (stpL o.n1) o.ss (runE rnkE rnkL o.rs (runE divE divL o.ds []).2).2).1)
      else (runE rnkE rnkL o.rs (runE divE divL o.ds []).2).1)
    else (runE divE divL o.ds []).1) := ⟨by rw [HE.out, if_neg (by omega)]⟩
  clear h1 h2 h3 h4
  go_upto_region 4 with ((with_reducible show wpList _ _ _ _ _ _); first
    | (refine wpList_box_new 43 rfl rfl 164 (.tmp 42) rfl _ rfl (fun _ => by kernel_rfl) ?_; rintro wc g zg zm zs zb; have HGC : Sl _ := ⟨And.intro zg (And.intro zm (And.intro zs zb))⟩; clear zg zm zs zb)
    | (refine wpList_alloc_new 4 rfl rfl 161 rfl #[.pointer none] alloc_ckp ?_; rintro wp gc zg zm zs zb; have HGP : Sl _ := ⟨And.intro zg (And.intro zm (And.intro zs zb))⟩; clear zg zm zs zb)
    | (refine wpList_store_cell rfl 161 (.tmp 4) (.tmp 43) rfl gc 0 (.pointer (some ⟨g, 0, none⟩)) rfl rfl 161 _ _ HGP.out.2.2.2 (by decide) rfl (by kernel_rfl) rfl rfl ?_; rintro w4 zm zs zb zw; have HGQ : Sl _ := ⟨And.intro zm (And.intro zs zb)⟩; clear zm zs zb zw))
  obtain ⟨bm, hbm⟩ : ∃ bm, wr.heap.size = bm := ⟨_, rfl⟩
  have HCH : Sl (CHP w w4 o g bm gs gr gc []) := ⟨by
    obtain ⟨zg1, zm1, zs1, zb1⟩ := HGC.out; obtain ⟨zg2, zm2, zs2, zb2⟩ := HGP.out; obtain ⟨zm3, zs3, zb3⟩ := HGQ.out; obtain ⟨k1, k2⟩ := HGS.out; obtain ⟨k3, k4⟩ := HGR.out; have hb0 : Below wr.heap.size wr (wr.alloc (.map #[] 0)) := (Below.refl _ _).alloc (Nat.le_refl _) _; have hsz0 : (wr.alloc (.map #[] 0)).heap.size = wr.heap.size + 1 := (by simp); have hn0 := NM.made wr
    have hD1 := (((HD.out.below hb0).new zg1 zm1 zb1).new zg2 zm2 zb2).upd zm3 zb3 (fun p hp => by
      simp only [List.mem_cons, List.not_mem_nil, or_false] at hp
      rcases hp with rfl | rfl | rfl <;> (show _ ≠ gc; omega))
    rw [hbm] at hn0 hD1 hsz0; have hb1 := zm1.block bm (by omega) (by omega); have hb2 := zm2.block bm (by omega) (by omega); have hb3 := zm3.block bm (by omega) (by omega); refine ⟨⟨?_, ?_, by omega⟩, hD1.sub (fun p hp => ?_), ?_⟩
    · exact hD1.at_ 1 rfl
    · exact hn0.kept ((hb3.trans hb2).trans hb1)
    · simp only [List.mem_cons, List.not_mem_nil, or_false] at hp ⊢; rcases hp with rfl | rfl | rfl <;> simp
    · have := HD.out.bl.size
      omega⟩
  have HGRC : Sl (gr ≠ gc ∧ gr ≠ gs ∧ w.heap.size ≤ gr) := ⟨by
    have h1 := HGC.out.1; have h2 := HGP.out.1; have h3 := HGC.out.2.2.1; have h4 := HGS.out; have h5 := HGR.out; have hsz0 : (wr.alloc (.map #[] 0)).heap.size = wr.heap.size + 1 := (by simp); have := HGE.out
    omega⟩
  clear HGC HGP HGQ HGS HGR HD s0 s1 s2 s3 hbm; have c0 := (HCH.out.ld.at_ 0 rfl).cell 0; have cc := (HCH.out.ld.at_ 2 rfl).cell 0; simp at c0 cc
  have H1 : Sl _ := ⟨first_dv o.A1 o.n1 o.c1 o.ds (.pointer (some ⟨g, 0, none⟩)) divE divL (fun k l W => CHP w W o g bm gs gr gc l ∧ l.length ≤ 0 + k) w4 [] (by have := HN.out; omega)
    (fun k l W h => HM.out.d.below h.1.ld.bl)
    (fun k l W ob h => ⟨h.1.alloc ob, h.2⟩)
    (fun k l W x hx h => (division_any h.1.ck x (by have hk := (List.getElem?_eq_some_iff.1 hx).1; rw [HM.out.d.len] at hk; have := HN.out; have := h.2; omega) (HF.out.d x (List.mem_of_getElem? hx)).1).mono fun e w' hh => ⟨hh.1, h.1.step hh.2.1 hh.2.2, by have h5 := nmdL_len l kDv x.nm; have h6 := h.2; show (nmdL l kDv x.nm).length ≤ _; omega⟩)
    ⟨HCH.out, by decide⟩⟩
  obtain ⟨p, hp⟩ : ∃ p, runE divE divL o.ds [] = p := ⟨_, rfl⟩; rw [hp] at H1 HE; have HP1 : Sl _ := ⟨hp⟩; clear hp; obtain ⟨a, la⟩ := p; simp only [] at H1 HE; go_wp2_with fail; refine H1.out.mono ?_; rintro e w5 ⟨⟨i, hi, rfl⟩, k, hk, hc, hl⟩; clear H1 HCH c0 cc; have HCH : Sl _ := ⟨hc⟩; have HLEN : Sl (la.length ≤ 6) := ⟨by have := HN.out; (try simp at hl); omega⟩; clear hc hl hi hk
  by_cases ha : a = 0
  · subst ha; rw [if_pos rfl] at HE
    have HDB : Sl (∀ d ∈ o.ds, 0 ≤ d.lo ∧ d.hi ≤ 1000) := ⟨fun d hd => by
      obtain ⟨l', h'⟩ := runE_all (f := divE) (g := divL) (l := []) (by rw [HP1.out]) d hd
      exact divE_bd h'⟩
    have c0 := (HCH.out.ld.at_ 0 rfl).cell 1; have cc := (HCH.out.ld.at_ 2 rfl).cell 0; simp at c0 cc
    have H1 : Sl _ := ⟨first_rn o.A2 o.n2 o.c2 o.rs (.pointer (some ⟨g, 0, none⟩)) rnkE rnkL (fun k l W => CHP w W o g bm gs gr gc l ∧ l.length ≤ 6 + k) w5 la (by have := HN.out; omega)
      (fun k l W h => HM.out.r.below h.1.ld.bl)
      (fun k l W ob h => ⟨h.1.alloc ob, h.2⟩)
      (fun k l W x hx h => (rank_any h.1.ck x (by have hk := (List.getElem?_eq_some_iff.1 hx).1; rw [HM.out.r.len] at hk; have := HN.out; have := h.2; omega) (HF.out.r x (List.mem_of_getElem? hx)).1 (HF.out.r x (List.mem_of_getElem? hx)).2.2.2.2.2).mono fun e w' hh => ⟨hh.1, h.1.step hh.2.1 hh.2.2, by have h5 := nmdL_len l kRn x.nm; have h6 := h.2; show (nmdL l kRn x.nm).length ≤ _; omega⟩)
      ⟨HCH.out, by have := HLEN.out; omega⟩⟩
    obtain ⟨p, hp⟩ : ∃ p, runE rnkE rnkL o.rs la = p := ⟨_, rfl⟩; rw [hp] at H1 HE; have HP2 : Sl _ := ⟨hp⟩; clear hp; obtain ⟨b, lb⟩ := p; simp only [] at H1 HE; go_wp2_with fail; refine H1.out.mono ?_; rintro e w6 ⟨⟨i2, hi, rfl⟩, k, hk, hc, hl⟩; clear H1 HCH c0 cc; have HCH : Sl _ := ⟨hc⟩; replace HLEN : Sl (lb.length ≤ 46) := ⟨by have := HN.out; (try simp at hl); omega⟩; clear hc hl hi hk
    by_cases ha : b = 0
    · subst ha; rw [if_pos rfl] at HE
      have HRB : Sl (∀ r ∈ o.rs, (0 ≤ r.lo ∧ r.lo ≤ 1000) ∧ (0 ≤ r.ct ∧ r.ct ≤ 1000)) := ⟨fun d hd => by
        obtain ⟨l', h'⟩ := runE_all (f := rnkE) (g := rnkL) (l := la) (by rw [HP2.out]) d hd
        exact rnkE_bd h'⟩
      have c2 := (HCH.out.ld.at_ 0 rfl).cell 2; simp at c2; obtain ⟨p, hp⟩ : ∃ p, runE (stpsE o) (stpL o.n1) o.ss lb = p := ⟨_, rfl⟩; rw [hp] at HE; have HP3 : Sl _ := ⟨hp⟩; clear hp; obtain ⟨cE, lc⟩ := p; simp only [] at HE; go_wp2_with fail; clear c2
      go_loopw [73] (fun s73 wv => ∃ (k : Nat) (l : Keys), k ≤ o.n3 ∧ s73 = .int .i64 k ∧ Sl (CHP w wv o g bm gs gr gc l ∧ l.length ≤ 46 + k) ∧ Sl (runE (stpsE o) (stpL o.n1) (o.ss.drop k) l = (cE, lc))) (fun s73 _ => o.n3 - (RowKit.intOf s73).toNat)
      case atStart => exact ⟨0, lb, Nat.zero_le _, rfl, ⟨HCH.out, HLEN.out⟩, HP3⟩
      case round =>
        obtain ⟨k, l, hk, rfl, HCH, HRK⟩ := hrel
        by_cases hkn : k < o.n3
        · have hkI : decide ((k : Int) < (o.n3 : Int)) = true := decide_eq_true (by omega); have hkI2 : (k : Int) < (o.n3 : Int) := (by omega); obtain ⟨gb, oo, x, hA3, hgb, hx, hra⟩ := (HM.out.s.below HCH.out.1.ld.bl).at_ (by omega) hkn; have HRX := runE_drop (f := stpsE o) (g := stpL o.n1) l hx; rw [HRK.out] at HRX; have HST : Sl _ := ⟨fun (W : World) (hW : CK W g bm o l) => stop_any hW x (by have := HCH.out.2; have := HN.out; omega) (HF.out.s x (List.mem_of_getElem? hx)).1 (by have := HN.out; omega) (Nat.le_trans (HF.out.s x (List.mem_of_getElem? hx)).2.2.2.2.1.1 (HF.out.s x (List.mem_of_getElem? hx)).2.2.2.2.1.2)⟩; have HXP : Sl _ := ⟨HM.out.p x (List.mem_of_getElem? hx)⟩; have HXB : Sl (stpE o.n1 l x = 0 → (0 ≤ x.dv ∧ x.dv < (o.n1 : Int)) ∧ x.n ≤ 12) := ⟨stpE_bd⟩; have HSE : Sl (stpsE o l x = if stpE o.n1 l x = 0 then (runE (fun _ p => prtE o.rs (o.ds[x.dv.toNat]?.getD dv0) p) (fun l _ => l) x.ps l).1 else stpE o.n1 l x) := ⟨rfl⟩; have HLL : Sl ((stpL o.n1 l x).length ≤ 46 + (k + 1)) := ⟨by have := stpL_len o.n1 l x; have := HCH.out.2; omega⟩; have x0 := hra 0 _ rfl; have x1 := hra 1 _ rfl; have x2 := hra 2 _ rfl; have x3 := hra 3 _ rfl; have x4 := hra 4 _ rfl; rw [Nat.add_zero] at x0; obtain ⟨z, hz⟩ : ∃ z, stpE o.n1 l x = z := ⟨_, rfl⟩; obtain ⟨l2, hl2⟩ : ∃ l2, stpL o.n1 l x = l2 := ⟨_, rfl⟩; obtain ⟨zs, hzs⟩ : ∃ zs, stpsE o l x = zs := ⟨_, rfl⟩; rw [hz, hl2] at HST; rw [hz] at HXB HSE; rw [hzs] at HSE; rw [hl2] at HLL; rw [hzs, hl2] at HRX; have HX : Sl _ := ⟨HRX⟩; clear hz hl2 hzs HRX hra; obtain ⟨nm, dv, fn, fd, A, n, c, ps⟩ := x; simp only [] at x0 x1 x2 x3 x4 HST HXP HXB HSE; rw [hA3]; have HA3 : Sl _ := ⟨hA3⟩; clear hA3 hx
          go_upto_region 13 with ((with_reducible show wpList _ _ _ _ _ _); first
            | (refine wpList_alloc_new 10 rfl rfl 90 rfl #[.string ⟨#[]⟩, .int .i64 0, .int .i64 0, .int .i64 0, .slice none 0 0] alloc_stop ?_; rintro wa gx zg zm zs zb; have HXA : Sl _ := ⟨And.intro zg (And.intro zm (And.intro zs zb))⟩; clear zg zm zs zb)
            | (refine wpList_store_whole rfl 90 (.tmp 10) (.tmp 77) rfl gx #[.string nm, .int .i64 dv, .int .i64 fn, .int .i64 fd, .slice A n c] rfl rfl 90 _ HXA.out.2.2.2 rfl (by kernel_rfl) (by simp [Value.oneCell']) ?_; rintro wb zm zs zb; have HXS : Sl _ := ⟨And.intro zm (And.intro zs zb)⟩; clear zm zs zb))
          have hwb : Below wr.heap.size wr wb := below_mv (below_mv (Below.refl _ _) HXA.out.2.1 (Nat.le_refl _) (Nat.le_refl _)) HXS.out.1 (by have := HXA.out.1; omega) (by have := HXA.out.1; have := HXA.out.2.2.1; omega); have hgxb : gx ≠ bm := (by have := HCH.out.1.ck.nm.lt; have := HXA.out.1; omega); have hxk := HXS.out.2.2; have HXK : Sl _ := ⟨hxk⟩; have HGX : Sl _ := ⟨hgxb⟩; have hch := HCH.out.1.below hwb; have HCW : Sl _ := ⟨hch⟩; clear hwb hgxb hxk hch x0 x1 x2 x3 x4 HXA HXS; have y0 := HXK.out.cell 0; have y1 := HXK.out.cell 1; have y2 := HXK.out.cell 2; have y3 := HXK.out.cell 3; have y4 := HXK.out.cell 4; have cc := (HCW.out.ld.at_ 2 rfl).cell 0; simp at y0 y1 y2 y3 y4 cc; go_wp2_with fail; refine (HST.out wb HCW.out.ck).mono ?_; rintro e w9 ⟨rfl, hck, hm⟩; have HC9 : Sl _ := ⟨HCW.out.step hck hm⟩; have hxk := HXK.out.mv hm HGX.out; have HX9 : Sl _ := ⟨hxk⟩; clear hck hm hxk y0 y1 y2 y3 y4 cc
          by_cases hz0 : z = 0
          · subst hz0; rw [if_pos rfl] at HSE; obtain ⟨⟨d1, d2⟩, d3⟩ := HXB.out rfl; obtain ⟨d, rfl⟩ := Int.eq_ofNat_of_zero_le d1; simp only [Int.toNat_natCast] at HSE
            have H1 : Sl _ := ⟨first_pr A n c ps (.pointer (some ⟨gc, 0, none⟩)) (.pointer (some ⟨gs, 0, none⟩)) (.pointer (some ⟨gx, 0, none⟩)) (fun _ p => prtE o.rs (o.ds[d]?.getD dv0) p) (fun l _ => l) (fun k l W => CHP w W o g bm gs gr gc l2 ∧ Blk W gx 90 #[.string nm, .int .i64 (d : Int), .int .i64 fn, .int .i64 fd, .slice A n c]) w9 l (by omega)
              (fun k l W h => HXP.out.below h.1.ld.bl)
              (fun k l W ob h => ⟨h.1.alloc ob, h.2.alloc ob⟩)
              (fun k l W p hp h => (chk1_any h.1 (HM.out.d.below h.1.ld.bl) (HM.out.r.below h.1.ld.bl) HRB.out (by have := HN.out; omega) HDB.out gx _ _ _ _ d (by omega) (by have := HN.out; omega) h.2 p).mono fun e w' hh => ⟨hh.1, h.1.below hh.2, h.2.below hh.2 h.2.lt⟩)
              ⟨HC9.out, HX9.out⟩⟩
            rw [← HSE.out] at H1; have HDN : Sl (n ≤ 12) := ⟨d3⟩; have y4 := HX9.out.cell 4; simp at y4; clear d1 d2 d3; go_wp2_with fail; refine H1.out.mono ?_; rintro e wA ⟨⟨i3, hi3, rfl⟩, k3, hk3, hcp, hxp⟩; have HCA : Sl _ := ⟨hcp⟩; have HI3 : Sl _ := ⟨hi3⟩; clear hk3 hcp hxp H1 y4
            by_cases hzs : zs = 0
            · subst hzs; rw [if_pos rfl] at HX; clear hi3; go_wp2_with fail; exact ⟨⟨k + 1, l2, by omega, by go_num, ⟨HCA.out, HLL.out⟩, ⟨HX.out.symm⟩⟩, by simp [RowKit.intOf]; omega⟩
            · rw [if_neg hzs] at HX
              have HR : Sl (r = zs) := ⟨by
                have h1 := congrArg Prod.fst HX.out; simp only [] at h1
                rw [HE.out, h1, if_neg hzs]⟩
              have q0 : (zs != 0) = true := (by rw [bne_iff_ne]; exact hzs); have hi4 : (i3 : Int) ≤ 12 := (by have := HDN.out; have := HI3.out; omega); clear hzs HE hi3
              go_wp2_with ((with_reducible show wpList _ _ _ _ _ _); first
                | (refine wpList_store_whole rfl 72 (.tmp 2) (.tmp 99) rfl gr #[.int .i64 3, .int .i64 (k : Int), .int .i64 ((i3 : Int) + 1)] rfl rfl 72 _ (HCA.out.ld.at_ 1 rfl) rfl (by kernel_rfl) (by simp [Value.oneCell']) ?_; rintro wz zm zs zb; have HZ : Sl _ := ⟨And.intro zm zb⟩; clear zm zs zb))
              (try simp only [Exit.inBlock, Exit.then])
              refine bodyPost_ret (results_row2c rfl _ _ gr _ _ _ rfl HZ.out.2 Tryz.underlying72 rfl (by kernel_rfl)) rfl ?_; exact ⟨⟨_, _, _, by rw [HR.out]; rfl⟩, below_mv HCA.out.ld.bl HZ.out.1 HGE.out HCA.out.ld.bl.size⟩
          · rw [if_neg hz0] at HSE
            have HR : Sl (r = z) := ⟨by
              have h0 := HX.out; rw [HSE.out, if_neg hz0] at h0; have h1 := congrArg Prod.fst h0; simp only [] at h1
              rw [HE.out, h1, if_neg hz0]⟩
            have q0 : (z != 0) = true := (by rw [bne_iff_ne]; exact hz0); clear hz0 HE
            go_wp2_with ((with_reducible show wpList _ _ _ _ _ _); first
              | (refine wpList_store_whole rfl 72 (.tmp 2) (.tmp 84) rfl gr #[.int .i64 3, .int .i64 (k : Int), .int .i64 0] rfl rfl 72 _ (HC9.out.ld.at_ 1 rfl) rfl (by kernel_rfl) (by simp [Value.oneCell']) ?_; rintro wz zm zs zb; have HZ : Sl _ := ⟨And.intro zm zb⟩; clear zm zs zb))
            (try simp only [Exit.inBlock, Exit.then])
            refine bodyPost_ret (results_row2c rfl _ _ gr _ _ _ rfl HZ.out.2 Tryz.underlying72 rfl (by kernel_rfl)) rfl ?_; exact ⟨⟨_, _, _, by rw [HR.out]; rfl⟩, below_mv HC9.out.ld.bl HZ.out.1 HGE.out HC9.out.ld.bl.size⟩
        · obtain rfl : k = o.n3 := (by omega); have hdr : (cE, lc) = (0, l) := (by rw [← HRK.out, ← HM.out.s.len, List.drop_length, runE]); injection hdr with h1 h2
          rw [h1, if_pos rfl, h2] at HE; have HLK : Sl (l.length ≤ 126) := ⟨by have := HCH.out.2; have := HN.out; omega⟩; replace HCH : Sl _ := ⟨HCH.out.1⟩; clear h1 h2; have c0 := (HCH.out.ld.at_ 0 rfl).cell 3; have cc := (HCH.out.ld.at_ 2 rfl).cell 0; simp at c0 cc
          have H1 : Sl _ := ⟨first_cp o.A4 o.n4 o.c4 o.cs (.pointer (some ⟨g, 0, none⟩)) (cplE o.n1) cplL (fun k l W => CHP w W o g bm gs gr gc l ∧ l.length ≤ 126 + k) wr l (by have := HN.out; omega)
            (fun k l W h => HM.out.c.below h.1.ld.bl)
            (fun k l W ob h => ⟨h.1.alloc ob, h.2⟩)
            (fun k l W x hx h => (coupler_any h.1.ck x (by have hk := (List.getElem?_eq_some_iff.1 hx).1; rw [HM.out.c.len] at hk; have := HN.out; have := h.2; omega) (HF.out.c x (List.mem_of_getElem? hx)).1 (by have := HN.out; omega)).mono fun e w' hh => ⟨hh.1, h.1.step hh.2.1 hh.2.2, by have h5 := nmdL_len l kCp x.nm; have h6 := h.2; show (nmdL l kCp x.nm).length ≤ _; omega⟩)
            ⟨HCH.out, by have := HLK.out; omega⟩⟩
          obtain ⟨p, hp⟩ : ∃ p, runE (cplE o.n1) cplL o.cs l = p := ⟨_, rfl⟩; rw [hp] at H1 HE; have HP4 : Sl _ := ⟨hp⟩; clear hp; obtain ⟨b, lb2⟩ := p; simp only [] at H1 HE; go_wp2_with fail; refine H1.out.mono ?_; rintro e w8 ⟨⟨i4, hi, rfl⟩, k4, hk4, hc, hl⟩; clear H1 HCH c0 cc; have HCH : Sl _ := ⟨hc⟩; clear hc hl hi hk4
          by_cases ha : b = 0
          · subst ha; have HR : Sl (r = 0) := ⟨HE.out⟩; clear HE
            go_wp2_with ((with_reducible show wpList _ _ _ _ _ _); first
              | (refine wpList_store_whole rfl 72 (.tmp 2) (.tmp 115) rfl gr #[.int .i64 0, .int .i64 0, .int .i64 0] rfl rfl 72 _ (HCH.out.ld.at_ 1 rfl) rfl (by kernel_rfl) (by simp [Value.oneCell']) ?_; rintro wz zm zs zb; have HZ : Sl _ := ⟨And.intro zm zb⟩; clear zm zs zb))
            (try simp only [Exit.inBlock, Exit.then])
            refine bodyPost_ret (results_row2c rfl _ _ gr _ _ _ rfl HZ.out.2 Tryz.underlying72 rfl (by kernel_rfl)) rfl ?_; exact ⟨⟨_, _, _, by rw [HR.out]; rfl⟩, below_mv HCH.out.ld.bl HZ.out.1 HGE.out HCH.out.ld.bl.size⟩
          · have HR : Sl (r = b) := ⟨HE.out⟩; have q0 : (b != 0) = true := (by rw [bne_iff_ne]; exact ha); clear ha HE
            go_wp2_with ((with_reducible show wpList _ _ _ _ _ _); first
              | (refine wpList_store_whole rfl 72 (.tmp 2) (.tmp 113) rfl gr #[.int .i64 4, .int .i64 (i4 : Int), .int .i64 0] rfl rfl 72 _ (HCH.out.ld.at_ 1 rfl) rfl (by kernel_rfl) (by simp [Value.oneCell']) ?_; rintro wz zm zs zb; have HZ : Sl _ := ⟨And.intro zm zb⟩; clear zm zs zb))
            (try simp only [Exit.inBlock, Exit.then])
            refine bodyPost_ret (results_row2c rfl _ _ gr _ _ _ rfl HZ.out.2 Tryz.underlying72 rfl (by kernel_rfl)) rfl ?_; exact ⟨⟨_, _, _, by rw [HR.out]; rfl⟩, below_mv HCH.out.ld.bl HZ.out.1 HGE.out HCH.out.ld.bl.size⟩
    · rw [if_neg ha] at HE; have HR : Sl (r = b) := ⟨HE.out⟩; have q0 : (b != 0) = true := (by rw [bne_iff_ne]; exact ha); clear ha HE
      go_wp2_with ((with_reducible show wpList _ _ _ _ _ _); first
        | (refine wpList_store_whole rfl 72 (.tmp 2) (.tmp 68) rfl gr #[.int .i64 2, .int .i64 (i2 : Int), .int .i64 0] rfl rfl 72 _ (HCH.out.ld.at_ 1 rfl) rfl (by kernel_rfl) (by simp [Value.oneCell']) ?_; rintro wz zm zs zb; have HZ : Sl _ := ⟨And.intro zm zb⟩; clear zm zs zb))
      (try simp only [Exit.inBlock, Exit.then])
      refine bodyPost_ret (results_row2c rfl _ _ gr _ _ _ rfl HZ.out.2 Tryz.underlying72 rfl (by kernel_rfl)) rfl ?_; exact ⟨⟨_, _, _, by rw [HR.out]; rfl⟩, below_mv HCH.out.ld.bl HZ.out.1 HGE.out HCH.out.ld.bl.size⟩
  · rw [if_neg ha] at HE; have HR : Sl (r = a) := ⟨HE.out⟩; have q0 : (a != 0) = true := (by rw [bne_iff_ne]; exact ha); clear ha HE
    go_wp2_with ((with_reducible show wpList _ _ _ _ _ _); first
      | (refine wpList_store_whole rfl 72 (.tmp 2) (.tmp 55) rfl gr #[.int .i64 1, .int .i64 (i : Int), .int .i64 0] rfl rfl 72 _ (HCH.out.ld.at_ 1 rfl) rfl (by kernel_rfl) (by simp [Value.oneCell']) ?_; rintro wz zm zs zb; have HZ : Sl _ := ⟨And.intro zm zb⟩; clear zm zs zb))
    (try simp only [Exit.inBlock, Exit.then])
    refine bodyPost_ret (results_row2c rfl _ _ gr _ _ _ rfl HZ.out.2 Tryz.underlying72 rfl (by kernel_rfl)) rfl ?_; exact ⟨⟨_, _, _, by rw [HR.out]; rfl⟩, below_mv HCH.out.ld.bl HZ.out.1 HGE.out HCH.out.ld.bl.size⟩
def fstE (f : Nat → Int) : Nat → Nat → Int
  | 0, _ => 0
  | n+1, k => if f k = 0 then fstE f n (k + 1) else f k
theorem fstE_zero {f : Nat → Int} : ∀ {n k : Nat}, fstE f n k = 0 → ∀ j, k ≤ j → j < k + n → f j = 0
  | 0, k, _, j, h1, h2 => by omega
  | n+1, k, h, j, h1, h2 => by
    rw [fstE] at h
    by_cases hf : f k = 0
    · rw [if_pos hf] at h; rcases Nat.lt_or_ge k j with h3 | h3
      · exact fstE_zero h j h3 (by omega)
      · rw [show j = k by omega]; exact hf
    · rw [if_neg hf] at h; exact absurd h hf
def drwK (l : List Int) (many : Int) (k : Nat) : Int := if gt l k < 0 ∨ many ≤ gt l k then 4 else if 0 < k ∧ gt l k ≤ gt l (k - 1) then 8 else 0
def drwE (l : List Int) (many : Int) : Int := fstE (drwK l many) l.length 0
theorem drwE_ok {l : List Int} {many : Int} (h : drwE l many = 0) {k : Nat} (hk : k < l.length) : (0 ≤ gt l k ∧ gt l k < many) ∧ ∀ i, i < k → gt l i < gt l k := by
  have h0 : ∀ j, j < l.length → drwK l many j = 0 := fun j hj => fstE_zero h j (Nat.zero_le _) (by omega)
  have hb : ∀ j, j < l.length → (0 ≤ gt l j ∧ gt l j < many) ∧ (0 < j → gt l (j - 1) < gt l j) := fun j hj => by
    have := h0 j hj; unfold drwK at this
    split at this
    · cases this
    · split at this
      · cases this
      · omega
  refine ⟨(hb k hk).1, fun i hi => ?_⟩
  have key : ∀ d i, i + (d + 1) = k → gt l i < gt l k := fun d => by
    induction d with
    | zero =>
      intro i hi; have := (hb k hk).2 (by omega); rw [show k - 1 = i by omega] at this; exact this
    | succ d ih =>
      intro i hi; have h1 := ih (i + 1) (by omega); have h2 := (hb (i + 1) (by omega)).2 (by omega); rw [show i + 1 - 1 = i by omega] at h2; omega
  exact key (k - i - 1) i (by omega)
theorem drawn_any (A : Option Addr) (n c : Nat) (l : List Int) (many : Nat) (w : World) (hl : II w A n l) (hn : n ≤ maxLen) (hm : many ≤ maxLen) :
    Calls Tryz.prog 106 #[.slice A n c, .int .i64 (many : Int)] w fun e w' => e = .returned (.int .i64 (drwE l many)) ∧ w' = w := by
  have HL : Sl _ := ⟨hl⟩; have HLN : Sl _ := ⟨hl.1⟩; obtain ⟨r, hr⟩ : ∃ r, drwE l (many : Int) = r := ⟨_, rfl⟩; have HR : Sl (fstE (drwK l (many : Int)) n 0 = r) := ⟨by rw [← hr, ← hl.1]; rfl⟩; rw [hr]; unfold maxLen at hn hm; clear hl hr; go_enter Tryz.func106, Tryz.ntmps106; go_wp2_with fail
  go_loop [9] (fun s9 => ∃ k : Nat, k ≤ n ∧ s9 = .int .i64 k ∧ Sl (fstE (drwK l (many : Int)) (n - k) k = r)) (fun s9 => n - (RowKit.intOf s9).toNat)
  case atStart => exact ⟨0, Nat.zero_le _, rfl, HR⟩
  case round =>
    obtain ⟨k, hk, rfl, HK⟩ := hrel
    by_cases hkn : k < n
    · have hkI : decide ((k : Int) < (n : Int)) = true := decide_eq_true (by omega); have hkI2 : (k : Int) < (n : Int) := (by omega); obtain ⟨ad, rfl, hab, c1⟩ := HL.out.cell (j := k) hkn; have HSTEP : Sl (r = if drwK l (many : Int) k = 0 then fstE (drwK l (many : Int)) (n - (k + 1)) (k + 1) else drwK l (many : Int) k) := ⟨by rw [← HK.out, show n - k = (n - (k + 1)) + 1 by omega]; rfl⟩; have HDK : Sl (drwK l (many : Int) k = if gt l k < 0 ∨ (many : Int) ≤ gt l k then 4 else if 0 < k ∧ gt l k ≤ gt l (k - 1) then 8 else 0) := ⟨rfl⟩; obtain ⟨x, hx⟩ : ∃ x, gt l k = x := ⟨_, rfl⟩; rw [hx] at c1 HDK; have HX : Sl _ := ⟨hx⟩; clear hx
      by_cases q1 : x < 0
      · have q1d : decide (x < 0) = true := decide_eq_true q1; have HD : drwK l (many : Int) k = 4 := (by rw [HDK.out]; exact if_pos (.inl q1)); have HV : Sl (r = 4) := ⟨by rw [HSTEP.out, HD]; rfl⟩; clear HD; go_wp2_with fail
        (try simp only [Exit.inBlock, Exit.then])
        go_ret; exact ⟨by rw [HV.out]; rfl, rfl⟩
      · have q1d : decide (x < 0) = false := decide_eq_false q1
        by_cases q2 : (many : Int) ≤ x
        · have q2d : decide ((many : Int) ≤ x) = true := decide_eq_true q2; have HD : drwK l (many : Int) k = 4 := (by rw [HDK.out]; exact if_pos (.inr q2)); have HV : Sl (r = 4) := ⟨by rw [HSTEP.out, HD]; rfl⟩; clear HD; go_wp2_with fail
          (try simp only [Exit.inBlock, Exit.then])
          go_ret; exact ⟨by rw [HV.out]; rfl, rfl⟩
        · have q2d : decide ((many : Int) ≤ x) = false := decide_eq_false q2
          by_cases hk0 : k = 0
          · have hgt : decide ((0 : Int) < (k : Int)) = false := decide_eq_false (by omega); have hgt2 : ¬ (0 : Int) < (k : Int) := (by omega); have hgt3 : ¬ 0 < k := (by omega); have hgt4 : decide (0 < k) = false := decide_eq_false hgt3; have HV : Sl (fstE (drwK l (many : Int)) (n - (k + 1)) (k + 1) = r) := ⟨by rw [HSTEP.out, if_pos (by rw [HDK.out, if_neg (by omega), if_neg (by omega)])]⟩; clear hk0; go_wp2_with fail; exact ⟨⟨k + 1, by omega, by go_num, HV⟩, by simp [RowKit.intOf]; omega⟩
          · obtain ⟨i, hi⟩ : ∃ i, i + 1 = k := ⟨k - 1, by omega⟩; obtain ⟨ad', hA, _, c0⟩ := HL.out.cell (j := i) (by omega); injection hA with hA
            subst hA; obtain ⟨y, hy⟩ : ∃ y, gt l i = y := ⟨_, rfl⟩; rw [show k - 1 = i by omega, hy] at HDK; rw [hy] at c0; have hij : (k : Int) - 1 = (i : Int) := (by omega); have hgt : decide ((0 : Int) < (k : Int)) = true := decide_eq_true (by omega); have hgt2 : (0 : Int) < (k : Int) := (by omega); have hgt3 : 0 < k := (by omega); have hgt4 : decide (0 < k) = true := decide_eq_true hgt3; have hiN : (i : Int) < (n : Int) := (by omega); have hiN2 : i < n := (by omega); have hiw : IntKind.i64.wrap (i : Int) = (i : Int) := (by rw [IntKind.wrap_i64]; omega); clear hi hy hk0
            by_cases q3 : x ≤ y
            · have q3d : decide (x ≤ y) = true := decide_eq_true q3; have HD : drwK l (many : Int) k = 8 := (by rw [HDK.out, if_neg (by omega)]; exact if_pos ⟨hgt3, q3⟩); have HV : Sl (r = 8) := ⟨by rw [HSTEP.out, HD]; rfl⟩; clear HD; go_wp2_with fail
              (try simp only [Exit.inBlock, Exit.then])
              go_ret; exact ⟨by rw [HV.out]; rfl, rfl⟩
            · have q3d : decide (x ≤ y) = false := decide_eq_false q3; have HV : Sl (fstE (drwK l (many : Int)) (n - (k + 1)) (k + 1) = r) := ⟨by rw [HSTEP.out, if_pos (by rw [HDK.out, if_neg (by omega), if_neg (by omega)])]⟩; go_wp2_with fail; exact ⟨⟨k + 1, by omega, by go_num, HV⟩, by simp [RowKit.intOf]; omega⟩
    · obtain rfl : k = n := (by omega); have HV : Sl (r = 0) := ⟨by rw [← HK.out, Nat.sub_self]; rfl⟩; go_wp2_with fail; go_ret; exact ⟨by rw [HV.out]; rfl, rfl⟩
structure RgV where
  A : Option Addr
  n : Nat
  c : Nat
  l : List Int
  B : Option Addr
  m : Nat
  d : Nat
  k : List Int
def RgV.cells (r : RgV) : List Value := [.slice r.A r.n r.c, .slice r.B r.m r.d]
structure RgM (w : World) (r : RgV) : Prop where
  s : II w r.A r.n r.l
  c : II w r.B r.m r.k
  sc : r.n ≤ r.c ∧ r.c ≤ maxLen
  cc : r.m ≤ r.d ∧ r.d ≤ maxLen
theorem RgM.below {w w' : World} {r : RgV} (h : RgM w r) (hb : Below w.heap.size w w') : RgM w' r := ⟨h.s.below hb, h.c.below hb, h.sc, h.cc⟩
def regE (o : SpO) (r : RgV) : Int := if drwE r.l (o.n3 : Int) = 0 then drwE r.k (o.n4 : Int) else drwE r.l (o.n3 : Int)
theorem registration_any (o : SpO) (r : RgV) (w : World) (hr : RgM w r) (hF : SpF o) : Calls Tryz.prog 42 #[.agg #[.slice o.A1 o.n1 o.c1, .slice o.A2 o.n2 o.c2, .slice o.A3 o.n3 o.c3, .slice o.A4 o.n4 o.c4], .agg #[.slice r.A r.n r.c, .slice r.B r.m r.d]] w fun e w' => e = .returned (.int .i64 (regE o r)) ∧ Below w.heap.size w w' := by
  have hb1 := (Below.refl w.heap.size w).alloc (Nat.le_refl _) (.cells #[.slice o.A1 o.n1 o.c1, .slice o.A2 o.n2 o.c2, .slice o.A3 o.n3 o.c3, .slice o.A4 o.n4 o.c4] 33); have hb2 := hb1.alloc hb1.size (.cells #[.slice r.A r.n r.c, .slice r.B r.m r.d] 45); have HB : Sl _ := ⟨hb2⟩; have H1 : Sl _ := ⟨fun (W : World) (hW : Below w.heap.size w W) => drawn_any r.A r.n r.c r.l o.n3 W (hr.s.below hW) (Nat.le_trans hr.sc.1 hr.sc.2) (Nat.le_trans hF.cap.2.2.1.1 hF.cap.2.2.1.2)⟩; have H2 : Sl _ := ⟨fun (W : World) (hW : Below w.heap.size w W) => drawn_any r.B r.m r.d r.k o.n4 W (hr.c.below hW) (Nat.le_trans hr.cc.1 hr.cc.2) (Nat.le_trans hF.cap.2.2.2.1 hF.cap.2.2.2.2)⟩; have HE : Sl (regE o r = if drwE r.l (o.n3 : Int) = 0 then drwE r.k (o.n4 : Int) else drwE r.l (o.n3 : Int)) := ⟨rfl⟩; obtain ⟨a, ha⟩ : ∃ a, drwE r.l (o.n3 : Int) = a := ⟨_, rfl⟩; obtain ⟨b, hb⟩ : ∃ b, drwE r.k (o.n4 : Int) = b := ⟨_, rfl⟩; rw [ha] at HE H1; rw [hb] at HE H2; obtain ⟨v, hv⟩ : ∃ v, regE o r = v := ⟨_, rfl⟩; rw [hv] at HE ⊢; have hcap := hF.cap; unfold maxLen at hcap; have HCAP : Sl _ := ⟨hcap⟩; clear hb1 hb2 hr hF ha hb hv hcap
  by_cases ha0 : a = 0
  · subst ha0; rw [if_pos rfl] at HE; go_enter Tryz.func42, Tryz.ntmps42; go_wp2_with fail; refine (H1.out _ HB.out).mono ?_; rintro e w1 ⟨rfl, rfl⟩; go_wp2_with fail; refine (H2.out _ HB.out).mono ?_; rintro e w1 ⟨rfl, rfl⟩; go_wp2_with fail; go_ret; exact ⟨by rw [HE.out]; rfl, HB.out⟩
  · rw [if_neg ha0] at HE; have q0 : (a != 0) = true := (by rw [bne_iff_ne]; exact ha0); clear ha0; go_enter Tryz.func42, Tryz.ntmps42; go_wp2_with fail; refine (H1.out _ HB.out).mono ?_; rintro e w1 ⟨rfl, rfl⟩; go_wp2_with fail; go_ret; exact ⟨by rw [HE.out]; rfl, HB.out⟩
end Go.Proofs.YtabkpbbjodfolaaGreatDoor
namespace Go.Proofs.YtabkpbbjodfolaaGreatDoor
open Go.ChangeShapes Go.WideShapes Go.ChangeAt Go.RowKit Go.Deep
theorem trod_structA2 {H : Type} {enc : TypeId × Value → H} {P : Program} {w : World} {base : Nat} {spare : Nat → Bool} {held : Bool} {t : TypeId} {f0 f1 : Field} {fuel : Nat} {cs : List Value} {x : DataW H × List MemPlace} (ht : P.underlying t = some (.struct #[f0, f1])) (h : DataW.trod enc P w base spare held fuel t cs = some x) :
    ∃ y0 y1 n, x = (.agg [y0.1, y1.1], y0.2 ++ y1.2) ∧ cs.length = P.cellsOf t ∧ DataW.trod enc P w base spare held n f0.type ((cs.drop f0.offset).take (P.cellsOf f0.type)) = some y0 ∧
      DataW.trod enc P w base spare held n f1.type ((cs.drop f1.offset).take (P.cellsOf f1.type)) = some y1 := by
  obtain ⟨xs, n, _, rfl, hl, hlen, hf⟩ := DataW.trod_struct ht h
  match xs, hlen with
  | [y0, y1], _ => exact ⟨y0, y1, n, by simp, hl, by simpa using hf 0 f0 rfl, by simpa using hf 1 f1 rfl⟩
theorem trod_structA3 {H : Type} {enc : TypeId × Value → H} {P : Program} {w : World} {base : Nat} {spare : Nat → Bool} {held : Bool} {t : TypeId} {f0 f1 f2 : Field} {fuel : Nat} {cs : List Value} {x : DataW H × List MemPlace} (ht : P.underlying t = some (.struct #[f0, f1, f2])) (h : DataW.trod enc P w base spare held fuel t cs = some x) :
    ∃ y0 y1 y2 n, x = (.agg [y0.1, y1.1, y2.1], y0.2 ++ (y1.2 ++ y2.2)) ∧ cs.length = P.cellsOf t ∧ DataW.trod enc P w base spare held n f0.type ((cs.drop f0.offset).take (P.cellsOf f0.type)) = some y0 ∧
      DataW.trod enc P w base spare held n f1.type ((cs.drop f1.offset).take (P.cellsOf f1.type)) = some y1 ∧ DataW.trod enc P w base spare held n f2.type ((cs.drop f2.offset).take (P.cellsOf f2.type)) = some y2 := by
  obtain ⟨xs, n, _, rfl, hl, hlen, hf⟩ := DataW.trod_struct ht h
  match xs, hlen with
  | [y0, y1, y2], _ => exact ⟨y0, y1, y2, n, by simp, hl, by simpa using hf 0 f0 rfl, by simpa using hf 1 f1 rfl, by simpa using hf 2 f2 rfl⟩
theorem reg_trod {H : Type} {enc : TypeId × Value → H} {W : World} {fuel : Nat} {cs : List Value} {x : DataW H × List MemPlace} (h : DataW.trod enc Tryz.prog W 0 (fun _ => true) true fuel 45 cs = some x) (hb : ∀ p ∈ x.2, p.block < W.heap.size) :
    ∃ r : RgV, cs = [.slice r.A r.n r.c, .slice r.B r.m r.d] ∧ RgM W r ∧ (∀ z ∈ r.l, i64 z) ∧ ∀ z ∈ r.k, i64 z := by
  obtain ⟨y0, y1, n, hx, hl, h0, h1⟩ := trod_structA2 Tryz.underlying45 h; have c1 : Tryz.prog.cellsOf 43 = 1 := (by kernel_rfl); have c7 : Tryz.prog.cellsOf 45 = 2 := (by kernel_rfl); rw [c7] at hl
  match cs, hl with
  | [u0, u1], _ =>
    simp only [c1, List.drop_zero, List.drop_succ_cons, List.take_succ_cons, List.take_zero] at h0 h1; obtain ⟨A, n1, c, l, e0, g1, g2, g3⟩ := ints_trod h0 (fun p hp => hb p (by rw [hx]; simp [hp])); obtain ⟨B, m1, d, k, e1, k1, k2, k3⟩ := ints_trod h1 (fun p hp => hb p (by rw [hx]; simp [hp])); subst e0 e1; exact ⟨⟨A, n1, c, l, B, m1, d, k⟩, rfl, ⟨g1, k1, g2, k2⟩, g3, k3⟩
end Go.Proofs.YtabkpbbjodfolaaGreatDoor
namespace Go.Proofs.YtabkpbbjodfolaaGreatDoor
open Go.RowKit
def OI (w : World) (base : Nat) (A : Option Addr) (n c : Nat) (l : List Int) : Prop := w.ownsRow base 3 1 (.slice A n c) n (l.map iv)
theorem OI.mono {w : World} {base base' : Nat} {A : Option Addr} {n c : Nat} {l : List Int} (h : OI w base A n c l) (hb : base' ≤ base) : OI w base' A n c l :=
  ⟨h.1, h.2.imp id fun ⟨g, cap, cur, h1, h2, h3⟩ => ⟨g, cap, cur, h1, Nat.le_trans hb h2, h3⟩⟩
theorem OI.len {w : World} {base : Nat} {A : Option Addr} {n c : Nat} {l : List Int} (h : OI w base A n c l) : l.length = n := by
  have := h.1; simpa using this
theorem OI.ii {w : World} {base : Nat} {A : Option Addr} {n c : Nat} {l : List Int} (h : OI w base A n c l) : II w A n l := ⟨h.len, Reads.of_own h⟩
theorem OI.lt {w : World} {base : Nat} {A : Option Addr} {n c : Nat} {l : List Int} (h : OI w base A n c l) : ∀ k, (Value.slice A n c).ownBlock = some k → base ≤ k ∧ k < w.heap.size := World.ownsRow.lt h
theorem OI.mv {w w' : World} {g base : Nat} {A : Option Addr} {n c : Nat} {l : List Int} (h : OI w base A n c l) (hm : Mv g w w') (hne : ∀ k, (Value.slice A n c).ownBlock = some k → k ≠ g) : OI w' base A n c l := own_mv h hm hne
theorem OI.below {w w' : World} {base : Nat} {A : Option Addr} {n c : Nat} {l : List Int} (h : OI w base A n c l) (hb : Below w.heap.size w w') : OI w' base A n c l :=
  own_mv h (Mv.of_below hb) (fun k hk => by have := (World.ownsRow.lt h k hk).2; omega)
theorem OI.cap {w : World} {base : Nat} {A : Option Addr} {n c : Nat} {l : List Int} (h : OI w base A n c l) : n ≤ c ∧ c ≤ maxLen := by
  rcases h.2 with ⟨h0, _⟩ | ⟨b, cap, cur, e1, _, _, h1, h2, _⟩
  · injection h0 with a b c
    subst b c; exact ⟨Nat.le_refl _, by decide⟩
  · injection e1 with a b c
    subst c; exact ⟨h1, h2⟩
theorem cloneII_any (A : Option Addr) (n c : Nat) (l : List Int) (w : World) (h : II w A n l) (hn : n ≤ 1000000) :
    Calls Tryz.prog 62 #[.slice A n c] w fun e w' => (∃ A' c', e = .returned (.slice A' n c') ∧ OI w' w.heap.size A' n c' l) ∧ Below w.heap.size w w' := by
  rcases A with _ | ad
  · have h0 : n = 0 := by
      rcases Nat.eq_zero_or_pos n with h0 | h0
      · exact h0
      · obtain ⟨ad, e, _⟩ := h.2.2 h0
        cases e
    subst h0; have hl : l = [] := List.eq_nil_of_length_eq_zero h.1; subst hl; refine (Tryz.slices_Clone_int_nil 0 c w).mono fun e w' hh => ?_
    obtain ⟨rfl, rfl⟩ := hh; exact ⟨⟨none, 0, rfl, World.ownsRow_nil _ _ _ _⟩, Below.refl _ _⟩
  · have key : ∀ (P : Value → World → Prop) (e : Ending) (w' : World), (∃ v', e = .returned v' ∧ w'.ownsRow w.heap.size 3 1 v' n (l.map iv) ∧ v' ≠ .slice none 0 0 ∧ Below w.heap.size w w') → (∃ A' c', e = .returned (.slice A' n c') ∧ OI w' w.heap.size A' n c' l) ∧ Below w.heap.size w w' := fun P e w' hh => by
      obtain ⟨v', rfl, h1, h2, h3⟩ := hh; rcases h1.2 with ⟨rfl, _⟩ | ⟨g, cap, cur, rfl, _⟩
      · exact absurd rfl h2
      · exact ⟨⟨_, _, rfl, h1⟩, h3⟩
    rcases Nat.eq_zero_or_pos n with h0 | h0
    · subst h0; have hl : l = [] := List.eq_nil_of_length_eq_zero h.1; subst hl; exact (Tryz.slices_Clone_int_zero ad c w).mono fun e w' hh => key (fun _ _ => True) e w' hh
    · obtain ⟨b, off, hA⟩ : ∃ b off, ad = ⟨b, off, none⟩ := by
        obtain ⟨ad', e, _, hc⟩ := h.2.2 h0; injection e with e
        subst e; obtain ⟨b, off, sp⟩ := ad
        cases sp with
        | none => exact ⟨b, off, rfl⟩
        | some s =>
          have c0 := hc 0 _ (List.getElem?_eq_getElem (by rw [List.length_map, h.1]; exact h0)); have e : (⟨b, off, some s⟩ : Addr).add 0 = ⟨b, off, some s⟩ := (by simp [Addr.add]); rw [e] at c0; unfold World.cell? at c0
          split at c0
          · simp at c0
          · cases c0
      subst hA
      have hc := (Tryz.slices_Clone_int b off n c l w (by rw [h.1]; exact Nat.le_refl _) (by omega) (fun j hj => by
        obtain ⟨ad', e, _, hc⟩ := h.cell (j := j) (by rw [← h.1]; exact hj); injection e with e
        subst e; rw [Addr.add_mid] at hc; rw [hc]
        rfl))
      rw [show l.take n = l by rw [← h.1, List.take_length]] at hc; exact hc.mono fun e w' hh => key (fun _ _ => True) e w' hh
structure RgO (w : World) (base : Nat) (r : RgV) : Prop where
  s : OI w base r.A r.n r.c r.l
  c : OI w base r.B r.m r.d r.k
  ne : ∀ g, (Value.slice r.A r.n r.c).ownBlock = some g → (Value.slice r.B r.m r.d).ownBlock ≠ some g
theorem RgO.rg {w : World} {base : Nat} {r : RgV} (h : RgO w base r) : RgM w r := ⟨h.s.ii, h.c.ii, h.s.cap, h.c.cap⟩
theorem RgO.below {w w' : World} {base : Nat} {r : RgV} (h : RgO w base r) (hb : Below w.heap.size w w') : RgO w' base r := ⟨h.s.below hb, h.c.below hb, h.ne⟩
theorem results_row1c {P : Program} {fn : Func} {p : Tmp} {ty : TypeId} (h : fn.results = #[.cell p ty]) (tmps : Array Value) (w : World) (g : Nat) (t : TypeId) (cs : Array Value) (d : TypeDesc)
    (hp : tmps.getD p undef = .pointer (some ⟨g, 0, none⟩)) (hg : Blk w g t cs)
    (hu : P.underlying ty = some d) (hd : (match d with | .struct _ | .array _ _ => true | _ => false) = true) (hi : (P.info? ty).map (·.size) = some cs.size) :
    (results fn tmps).run P w = .ok (.agg cs) w := results_cell_row h tmps w g t cs (0, 0) d hp hg hu hd hi
theorem alloc_reg (w : World) : (Instr.alloc 45 true (.tuple #[])).run Tryz.prog w = .ok (.pointer (some ⟨w.heap.size, 0, none⟩)) (w.alloc (.cells #[.slice none 0 0, .slice none 0 0] 45)) := by kernel_rfl
theorem copied_any (r : RgV) (w : World) (hr : RgM w r) (hn : r.n ≤ 1000000) (hm : r.m ≤ 1000000) : Calls Tryz.prog 43 #[.agg #[.slice r.A r.n r.c, .slice r.B r.m r.d]] w fun e w' =>
      (∃ A c B d, e = .returned (.agg #[.slice A r.n c, .slice B r.m d]) ∧ RgO w' w.heap.size ⟨A, r.n, c, r.l, B, r.m, d, r.k⟩) ∧ Below w.heap.size w w' := by
  have HD : Sl (Led w w []) := ⟨Led.nil w⟩; have HR : Sl _ := ⟨hr⟩; have HN : Sl (r.n ≤ 1000000 ∧ r.m ≤ 1000000) := ⟨hn, hm⟩; clear hr hn hm; go_enter Tryz.func43, Tryz.ntmps43
  go_upto_region 1 with ((with_reducible show wpList _ _ _ _ _ _); first
    | (refine wpList_box_new 1 rfl rfl 45 (.tmp 0) rfl #[.slice r.A r.n r.c, .slice r.B r.m r.d] rfl (fun _ => by kernel_rfl) ?_; rintro ws gs zg zm zs zb; replace HD : Sl _ := ⟨HD.out.new zg zm zb⟩; have HGS : Sl _ := ⟨And.intro zg zs⟩; clear zg zm zs zb)
    | (refine wpList_alloc_new 2 rfl rfl 45 rfl #[.slice none 0 0, .slice none 0 0] alloc_reg ?_; rintro wr gr zg zm zs zb; replace HD : Sl (Led w wr [(gr, 45, #[.slice none 0 0, .slice none 0 0]), (gs, 45, #[.slice r.A r.n r.c, .slice r.B r.m r.d])]) := ⟨HD.out.new zg zm zb⟩; have HGR : Sl _ := ⟨And.intro zg zs⟩; clear zg zm zs zb))
  have hbd : Below wr.heap.size wr wr.drew := below_drewN (Below.refl _ _) 1; have HBD : Sl _ := ⟨hbd⟩; have HC1 : Sl _ := ⟨cloneII_any r.A r.n r.c r.l wr.drew ((HR.out.s.below HD.out.bl).below hbd) HN.out.1⟩; have HC2 : Sl _ := ⟨fun (W : World) (hW : Below wr.heap.size wr W) => cloneII_any r.B r.m r.d r.k W ((HR.out.c.below HD.out.bl).below hW) HN.out.2⟩; have HGG : Sl (gs ≠ gr ∧ w.heap.size ≤ gr) := ⟨by have := HGR.out; have := HGS.out; omega⟩; clear hbd; have hm := Mv.below (g := gr) HBD.out; refine wp_region_held_drew (S := fun w' => Mv gr wr w') (by kernel_rfl) hm (fun hHeld => ?_); clear hm; refine hS 0 (v := .pointer (some ⟨gs, 0, none⟩)) rfl rfl ?_; simp only [pS]
  refine hC 1 (v := .slice r.A r.n r.c) rfl rfl (fun w' h => by
    have hc := ((HD.out.at_ 1 rfl).mv h HGG.out.1).cell 0
    go_simp) ?_
  simp only [pS]; refine hS 3 (v := .pointer (some ⟨gs, 1, none⟩)) rfl rfl ?_; simp only [pS]
  refine hC 4 (v := .slice r.B r.m r.d) rfl rfl (fun w' h => by
    have hc := ((HD.out.at_ 1 rfl).mv h HGG.out.1).cell 1
    go_simp) ?_
  simp only [pS]; refine hO 2 rfl rfl fun K hK => ?_; go_simp; go_at_call 62
  (with_reducible refine (HC1.out).mono ?_)
  rintro e3 w3 ⟨⟨A1, c1, rfl, ho1⟩, hb3⟩; have hb3 : Below wr.heap.size wr w3 := HBD.out.trans (hb3.mono HBD.out.size); have HB3 : Sl _ := ⟨hb3⟩; have HO1 : Sl _ := ⟨ho1⟩; clear ho1 hb3; refine hK.out _ _ (Mv.below HB3.out) (fun hHeld => ?_); clear hK K
  (try simp only [pS])
  refine hO 5 rfl rfl fun K hK => ?_; go_simp; go_at_call 62
  (with_reducible refine (HC2.out _ HB3.out).mono ?_)
  rintro e4 w4 ⟨⟨A2, c2, rfl, ho2⟩, hb4⟩; have hb5 : Below wr.heap.size wr w4 := HB3.out.trans (hb4.mono HB3.out.size); have HB5 : Sl _ := ⟨hb5⟩; have HO2 : Sl (OI w4 w3.heap.size A2 r.m c2 r.k) := ⟨ho2⟩; have HO3 : Sl (OI w4 wr.heap.size A1 r.n c1 r.l ∧ ∀ k, (Value.slice A1 r.n c1).ownBlock = some k → k < w3.heap.size) := ⟨HO1.out.below hb4, fun k hk => (HO1.out.lt k hk).2⟩; clear ho2 hb4 hb5 HO1; refine hK.out _ _ (Mv.below HB5.out) (fun hHeld => ?_); clear hK K
  (try simp only [pS])
  refine hS 6 (v := .agg #[.slice A1 r.n c1, .slice A2 r.m c2]) rfl rfl ?_; simp only [pS]; refine hO 7 rfl rfl fun K hK => ?_; refine wp_store_partm 45 (.tmp 2) (.tmp 9) rfl gr 0 #[.slice A1 r.n c1, .slice A2 r.m c2] rfl rfl 45 _ #[.slice A1 r.n c1, .slice A2 r.m c2] ((HD.out.at_ 0 rfl).below HB5.out (HD.out.at_ 0 rfl).lt) (by simp) (putA_all _ _ rfl) (by kernel_rfl) (by simp [Value.oneCell']) ?_; rintro w6 zm zs zb; have HZ : Sl _ := ⟨And.intro zm zb⟩; refine hK.out _ _ (Mv.trans (Mv.below HB5.out) zm) (fun hHeld => ?_); clear hK K zm zs zb; simp only [pS]; refine wpAnyH_done (by kernel_rfl) ?_ _; clear hHeld; go_wp2_with fail; refine bodyPost_ret (results_row1c rfl _ _ gr _ _ _ rfl HZ.out.2 Tryz.underlying45 rfl (by kernel_rfl)) rfl ?_; have hlt := (HD.out.at_ 0 rfl).lt; have hsz := HB5.out.size; have hs3 := HB3.out.size; have hww := HD.out.bl.size; refine ⟨⟨A1, c1, A2, c2, rfl, ⟨?_, ?_, fun g h1 h2 => ?_⟩⟩, below_mv (HD.out.bl.trans (HB5.out.mono hww)) HZ.out.1 HGG.out.2 (by omega)⟩
  · exact OI.mono (HO3.out.1.mv HZ.out.1 (fun k hk => by have := (HO3.out.1.lt k hk).1; omega)) hww
  · exact OI.mono (HO2.out.mv HZ.out.1 (fun k hk => by have := (HO2.out.lt k hk).1; omega)) (by omega)
  · have h3 := HO3.out.2 g h1; have h4 := (HO2.out.lt g h2).1; omega
def IRow (w : World) (g n : Nat) (f : Nat → Int) : Prop := ∃ (t : TypeId) (cs : Array Value), Blk w g t cs ∧ n ≤ cs.size ∧ ∀ j, j < n → cs[j]? = some (.int .i64 (f j))
theorem IRow.lt {w : World} {g n : Nat} {f : Nat → Int} (h : IRow w g n f) : g < w.heap.size := by
  obtain ⟨t, cs, hB, _⟩ := h; exact hB.lt
theorem IRow.cell {w : World} {g n : Nat} {f : Nat → Int} (h : IRow w g n f) {j : Nat} (hj : j < n) : w.cell? ⟨g, j, none⟩ = some (.int .i64 (f j)) := by
  obtain ⟨t, cs, hB, _, hc⟩ := h; rw [hB.cell, hc j hj]
theorem IRow.frozen {w : World} {g n : Nat} {f : Nat → Int} (h : IRow w g n f) (j : Nat) : w.frozen? ⟨g, j, none⟩ = false := by
  obtain ⟨t, cs, hB, _⟩ := h; exact hB.frozen j
theorem IRow.mv {w w' : World} {b g n : Nat} {f : Nat → Int} (h : IRow w b n f) (hm : Mv g w w') (hne : b ≠ g) : IRow w' b n f := by
  obtain ⟨t, cs, hB, h1, h2⟩ := h; exact ⟨t, cs, hB.mv hm hne, h1, h2⟩
theorem IRow.below {w w' : World} {B g n : Nat} {f : Nat → Int} (h : IRow w g n f) (hb : Below B w w') (hg : g < B) : IRow w' g n f := by
  obtain ⟨t, cs, hB, h1, h2⟩ := h; exact ⟨t, cs, hB.below hb hg, h1, h2⟩
theorem IRow.set {w : World} {g n : Nat} {f : Nat → Int} (h : IRow w g n f) {i : Nat} (x : Int) : IRow (w.setCell ⟨g, i, none⟩ (.int .i64 x)) g n (fun k => if k = i then x else f k) := by
  obtain ⟨t, cs, hB, h1, h2⟩ := h; refine ⟨t, _, hB.set_ i _, by simpa using h1, fun j hj => ?_⟩
  by_cases hji : j = i
  · subst hji; rw [Array.getElem?_setIfInBounds_self_of_lt (by omega)]; simp
  · rw [Array.getElem?_setIfInBounds_ne (fun h => hji h.symm)]; simp only [hji, if_false]; exact h2 j hj
theorem IRow.congr {w : World} {g n : Nat} {f e : Nat → Int} (h : IRow w g n f) (he : ∀ j, j < n → f j = e j) : IRow w g n e := by
  obtain ⟨t, cs, hB, h1, h2⟩ := h; exact ⟨t, cs, hB, h1, fun j hj => by rw [← he j hj]; exact h2 j hj⟩
abbrev StS := (Nat → Int) × Int
def stU (i : Nat) (s : StS) (x : Int) : StS := (fun k => if k = x.toNat then (i : Int) + 1 else s.1 k, if 0 < s.1 x.toNat ∧ s.2 = 0 then (i : Int) + 1 else s.2)
def stV : Nat → List (List Int) → StS → StS
  | _, [], s => s
  | i, l :: r, s => stV (i + 1) r (l.foldl (stU i) s)
theorem stV_drop {L : List (List Int)} {k : Nat} {l : List Int} (s : StS) (h : L[k]? = some l) : stV k (L.drop k) s = stV (k + 1) (L.drop (k + 1)) (l.foldl (stU k) s) := by
  obtain ⟨hk, rfl⟩ := List.getElem?_eq_some_iff.1 h; rw [List.drop_eq_getElem_cons hk, stV]
theorem stU_drop {l : List Int} {j : Nat} (hj : j < l.length) (i : Nat) (s : StS) : (l.drop j).foldl (stU i) s = (l.drop (j + 1)).foldl (stU i) (stU i s (gt l j)) := by
  rw [List.drop_eq_getElem_cons hj, List.foldl_cons]; have e : gt l j = l[j] := (by rw [gt, List.getElem?_eq_getElem hj]; rfl); rw [e]
theorem madeI {n j : Nat} (hj : j < n) : (madeCells #[.int .i64 0] n)[j]? = some (.int .i64 0) := by
  unfold madeCells; simp [hj, Nat.mod_one]
theorem infoInt : ∃ i, Tryz.prog.info? 3 = some i ∧ i.zero = some (.int .i64 0) ∧ i.size = 1 ∧ i.bytes = 8 := by
  have h : (Tryz.prog.info? 3).map (fun i => (i.zero, i.size, i.bytes)) = some (some (.int .i64 0), 1, 8) := (by kernel_rfl); obtain ⟨i, hi, he⟩ := Option.map_eq_some_iff.1 h; injection he with e1 e2
  injection e2 with e2 e3
  exact ⟨i, hi, e1, e2, e3⟩
theorem make_ints (n : Nat) (hn : n ≤ 1000000) (W : World) : (Instr.makeSlice 43 (.int .i64 (n : Int)) (.int .i64 (n : Int))).run Tryz.prog W = .ok (.slice (some ⟨W.heap.size, 0, none⟩) n n) (W.alloc (.cells (madeCells #[.int .i64 0] n) 3)) := by
  obtain ⟨i, h1, h2, h3, h4⟩ := infoInt; have h := run_make (P := Tryz.prog) W 43 3 i _ Tryz.underlying43 h1 h2 .i64 .i64 (n : Int) (n : Int) (by omega) (Int.le_refl _) (by rw [h4]; omega) (by omega); rw [h3] at h; simpa [Value.cells] using h
theorem IRow.made (W : World) (n : Nat) : IRow (W.alloc (.cells (madeCells #[.int .i64 0] n) 3)) W.heap.size n (fun _ => 0) :=
  ⟨_, _, Blk.new W _ _, by rw [size_madeCells]; exact Nat.le_refl _, fun j hj => madeI hj⟩
structure TbM (w : World) (A : Option Addr) (n c : Nat) (L : List RgV) : Prop where
  row : RowG w A n 2 RgV.cells L
  cap : n ≤ c ∧ c ≤ maxLen
  all : ∀ r ∈ L, RgM w r
theorem TbM.below {w w' : World} {A : Option Addr} {n c : Nat} {L : List RgV} (h : TbM w A n c L) (hb : Below w.heap.size w w') : TbM w' A n c L := ⟨h.row.below hb, h.cap, fun r hr => (h.all r hr).below hb⟩
theorem TbM.at_ {w : World} {A : Option Addr} {n c : Nat} {L : List RgV} (h : TbM w A n c L) {i : Nat} (hi : i < n) :
    ∃ gb o r, A = some ⟨gb, o, none⟩ ∧ gb < w.heap.size ∧ L[i]? = some r ∧ w.cell? ⟨gb, o + i * 2, none⟩ = some (.slice r.A r.n r.c) ∧ w.cell? ⟨gb, o + i * 2 + 1, none⟩ = some (.slice r.B r.m r.d) := by
  obtain ⟨gb, o, r, h1, h2, h3, h4⟩ := h.row.at_ (by decide) hi; exact ⟨gb, o, r, h1, h2, h3, h4 0 _ rfl, h4 1 _ rfl⟩
theorem stopsOf_any (r : RgV) (w : World) : Calls Tryz.prog 56 #[.agg #[.slice r.A r.n r.c, .slice r.B r.m r.d]] w fun e w' => e = .returned (.slice r.A r.n r.c) ∧ Below w.heap.size w w' := by
  have HB : Sl _ := ⟨(Below.refl w.heap.size w).alloc (Nat.le_refl _) (.cells #[.slice r.A r.n r.c, .slice r.B r.m r.d] 45)⟩; go_enter Tryz.func56, Tryz.ntmps56; go_wp2_with fail; go_ret; exact ⟨rfl, HB.out⟩
theorem steps_stops (T : Option Addr) (n c : Nat) (L : List RgV) (many : Nat) (w : World) (hT : TbM w T n c L) (hn : n ≤ 100000) (hm : many ≤ 100000) (hI : ∀ r ∈ L, r.n ≤ 100000 ∧ ∀ j, j < r.n → 0 ≤ gt r.l j ∧ gt r.l j < (many : Int)) :
    Calls Tryz.prog 55 #[.agg #[.slice T n c], .int .i64 (many : Int), .func (.func 56) #[] #[]] w fun e w' =>
      (∃ g, e = .returned (.tuple #[.slice (some ⟨g, 0, none⟩) many many, .int .i64 (stV 0 (L.map RgV.l) (fun _ => 0, 0)).2]) ∧ IRow w' g many (stV 0 (L.map RgV.l) (fun _ => 0, 0)).1 ∧ w.heap.size ≤ g) ∧ Below w.heap.size w w' := by
  have hrun : ∀ (args : Array Value) (w : World), (callFunc 56 args).run Tryz.prog w = .ok (.enter 56 args) w := fun a w => by go_simp
  obtain ⟨R, hR⟩ : ∃ R, stV 0 (L.map RgV.l) (fun _ => 0, 0) = R := ⟨_, rfl⟩; rw [hR]; have HR : Sl _ := ⟨hR⟩; have HT : Sl _ := ⟨hT⟩; have HI : Sl _ := ⟨hI⟩; have HB : Sl _ := ⟨(Below.refl w.heap.size w).alloc (Nat.le_refl _) (.cells #[.slice T n c] 53)⟩; have hmk := make_ints many (by omega); clear hR hT hI; go_enter Tryz.func55, Tryz.ntmps55; go_wp2_with fail; have HB2 : Sl (Below w.heap.size w ((w.alloc (.cells #[.slice T n c] 53)).alloc (.cells (madeCells #[.int .i64 0] many) 3))) := ⟨HB.out.alloc HB.out.size _⟩; have hir := IRow.made (w.alloc (.cells #[.slice T n c] 53)) many; rw [show (w.alloc (.cells #[.slice T n c] 53)).heap.size = w.heap.size + 1 by simp] at hir; have HIR : Sl _ := ⟨hir⟩; clear hir hmk HB; obtain ⟨g, hg⟩ : ∃ g, w.heap.size + 1 = g := ⟨_, rfl⟩; rw [hg] at HIR ⊢; have HG : Sl (w.heap.size ≤ g) := ⟨by omega⟩; clear hg; generalize (w.alloc (.cells #[.slice T n c] 53)).alloc (.cells (madeCells #[.int .i64 0] many) 3) = wi at *
  go_loopw [7, 17] (fun s7 s17 wr => ∃ (k : Nat) (f : Nat → Int) (tw : Int), k ≤ n ∧ s7 = .int .i64 tw ∧ s17 = .int .i64 k ∧ Sl (Below w.heap.size w wr ∧ IRow wr g many f) ∧ Sl (stV k ((L.map RgV.l).drop k) (f, tw) = R)) (fun _ s17 _ => n - (RowKit.intOf s17).toNat)
  case atStart => exact ⟨0, _, 0, Nat.zero_le _, rfl, rfl, ⟨HB2.out, HIR.out⟩, HR⟩
  case round =>
    clear HB2 HIR; obtain ⟨k, f, tw, hk, rfl, rfl, HM, HK⟩ := hrel
    by_cases hkn : k < n
    · have hkI : decide ((k : Int) < (n : Int)) = true := decide_eq_true (by omega); have hkI2 : (k : Int) < (n : Int) := (by omega); obtain ⟨gb, oo, x, hA, hgb, hx, x0, x1⟩ := (HT.out.below HM.out.1).at_ hkn; have HX : Sl (RgM w x) := ⟨HT.out.all x (List.mem_of_getElem? hx)⟩; have HXI : Sl _ := ⟨HI.out x (List.mem_of_getElem? hx)⟩; have hmx : (L.map RgV.l)[k]? = some x.l := (by rw [List.getElem?_map, hx]; rfl); have HST : Sl (stV (k + 1) ((L.map RgV.l).drop (k + 1)) (x.l.foldl (stU k) (f, tw)) = R) := ⟨by rw [← stV_drop _ hmx]; exact HK.out⟩; rw [hA]; clear hA hx hmx HK
      go_upto_region 5 with ((with_reducible show wpList _ _ _ _ _ _); first
        | (refine wpList_alloc_new 9 rfl rfl 45 rfl #[.slice none 0 0, .slice none 0 0] alloc_reg ?_; rintro wa gx zg zm zs zb; have HXA : Sl _ := ⟨And.intro zg (And.intro zm (And.intro zs zb))⟩; clear zg zm zs zb)
        | (refine wpList_store_whole rfl 45 (.tmp 9) (.tmp 21) rfl gx #[.slice x.A x.n x.c, .slice x.B x.m x.d] rfl rfl 45 _ HXA.out.2.2.2 rfl (by kernel_rfl) (by simp [Value.oneCell']) ?_; rintro wb zm zs zb; have HXS : Sl _ := ⟨And.intro zm (And.intro zs zb)⟩; clear zm zs zb))
      have hwb : Below wr.heap.size wr wb := below_mv (below_mv (Below.refl _ _) HXA.out.2.1 (Nat.le_refl _) (Nat.le_refl _)) HXS.out.1 (by have := HXA.out.1; omega) (by have := HXA.out.1; have := HXA.out.2.2.1; omega); have y0 := HXS.out.2.2.cell 0; have y1 := HXS.out.2.2.cell 1; simp at y0 y1; replace HM : Sl (Below w.heap.size w wb ∧ IRow wb g many f) := ⟨HM.out.1.trans (hwb.mono HM.out.1.size), HM.out.2.below hwb HM.out.2.lt⟩; clear x0 x1 hwb HXA HXS; go_wp2_with fail; refine (stopsOf_any x wb).mono ?_; rintro e wc ⟨rfl, hb⟩; replace HM : Sl (Below w.heap.size w wc ∧ IRow wc g many f) := ⟨HM.out.1.trans (hb.mono HM.out.1.size), HM.out.2.below hb HM.out.2.lt⟩; have HXL : Sl (II w x.A x.n x.l) := ⟨HX.out.s⟩; clear hb y0 y1 HX; obtain ⟨M, hM⟩ : ∃ M, x.l.foldl (stU k) (f, tw) = M := ⟨_, rfl⟩; rw [hM] at HST; have HMM : Sl _ := ⟨hM⟩; clear hM; obtain ⟨xl, hxl⟩ : ∃ xl, x.l = xl := ⟨_, rfl⟩; obtain ⟨xn, hxn⟩ : ∃ xn, x.n = xn := ⟨_, rfl⟩; obtain ⟨xA, hxA⟩ : ∃ xA, x.A = xA := ⟨_, rfl⟩; rw [hxl] at HXI HXL HMM; rw [hxn] at HXI HXL ⊢; rw [hxA] at HXL ⊢; clear hxl hxn hxA; go_wp2_with fail
      go_loopw [7, 26] (fun s7 s26 wv => ∃ (j : Nat) (h : Nat → Int) (tv : Int), j ≤ xn ∧ s7 = .int .i64 tv ∧ s26 = .int .i64 j ∧ Sl (Below w.heap.size w wv ∧ IRow wv g many h) ∧ Sl ((xl.drop j).foldl (stU k) (h, tv) = M)) (fun _ s26 _ => xn - (RowKit.intOf s26).toNat)
      case atStart => exact ⟨0, f, tw, Nat.zero_le _, rfl, rfl, HM, HMM⟩
      case round =>
        clear HM HMM; obtain ⟨j, h, tv, hj, rfl, rfl, HM, HJ⟩ := hrel
        by_cases hjn : j < xn
        · have hjI : decide ((j : Int) < (xn : Int)) = true := decide_eq_true (by omega); have hjI2 : (j : Int) < (xn : Int) := (by omega); obtain ⟨ad, hA2, hab, c1⟩ := (HXL.out.below HM.out.1).cell (j := j) hjn; have hz := HXI.out.2 j hjn; have hxb : (xn : Int) ≤ 100000 := (by have := HXI.out.1; omega); have HD : Sl ((xl.drop (j + 1)).foldl (stU k) (stU k (h, tv) (gt xl j)) = M) := ⟨by rw [← stU_drop (by rw [HXL.out.1]; exact hjn)]; exact HJ.out⟩; obtain ⟨z, hzz⟩ : ∃ z, gt xl j = z := ⟨_, rfl⟩; rw [hzz] at hz HD c1; clear hzz HJ; rw [hA2]; clear hA2; obtain ⟨zn, rfl⟩ := Int.eq_ofNat_of_zero_le hz.1; have hzI : (zn : Int) < (many : Int) := hz.2; have hzN : zn < many := (by omega); have c2 := HM.out.2.cell hzN; have f2 := HM.out.2.frozen zn; have HSET : Sl _ := ⟨fun v : Int => HM.out.2.set (i := zn) v⟩; have HBS : Sl _ := ⟨fun v : Value => HM.out.1.setCell (p := ⟨g, zn, none⟩) HG.out v⟩; obtain ⟨y, hy⟩ : ∃ y, h zn = y := ⟨_, rfl⟩; rw [hy] at c2; have HU : Sl (stU k (h, tv) (zn : Int) = (fun m => if m = zn then (k : Int) + 1 else h m, if 0 < y ∧ tv = 0 then (k : Int) + 1 else tv)) := ⟨by rw [← hy]; rfl⟩; clear hy hz; have hk100 : (k : Int) ≤ 100000 := (by omega)
          by_cases p1 : 0 < y
          · have p1d : decide (0 < y) = true := decide_eq_true p1
            by_cases p2 : tv = 0
            · subst p2; rw [if_pos ⟨p1, rfl⟩] at HU; go_wp2_with fail; exact ⟨⟨j + 1, _, _, by omega, rfl, by go_num, ⟨HBS.out _, HSET.out _⟩, ⟨by rw [← HU.out]; exact HD.out⟩⟩, by simp [RowKit.intOf]; omega⟩
            · have p2d : (tv == 0) = false := (by rw [beq_eq_false_iff_ne]; exact p2); rw [if_neg (fun hh => p2 hh.2)] at HU; clear p2; go_wp2_with fail; exact ⟨⟨j + 1, _, _, by omega, rfl, by go_num, ⟨HBS.out _, HSET.out _⟩, ⟨by rw [← HU.out]; exact HD.out⟩⟩, by simp [RowKit.intOf]; omega⟩
          · have p1d : decide (0 < y) = false := decide_eq_false p1; rw [if_neg (fun hh => p1 hh.1)] at HU; go_wp2_with fail; exact ⟨⟨j + 1, _, _, by omega, rfl, by go_num, ⟨HBS.out _, HSET.out _⟩, ⟨by rw [← HU.out]; exact HD.out⟩⟩, by simp [RowKit.intOf]; omega⟩
        · obtain rfl : j = xn := (by omega); have HMV : Sl (M = (h, tv)) := ⟨by rw [← HJ.out, ← HXL.out.1, List.drop_length]; rfl⟩; rw [HMV.out] at HST; go_wp2_with fail; exact ⟨⟨k + 1, h, tv, by omega, rfl, by go_num, HM, HST⟩, by simp [RowKit.intOf]; omega⟩
    · obtain rfl : k = n := (by omega); have HRV : Sl (R = (f, tw)) := ⟨by rw [← HK.out, show k = (L.map RgV.l).length by rw [List.length_map]; exact HT.out.row.len.symm, List.drop_length]; rfl⟩; go_wp2_with fail; go_ret2; exact ⟨⟨g, by rw [HRV.out]; rfl, by rw [HRV.out]; exact HM.out.2, HG.out⟩, HM.out.1⟩
theorem couplersOf_any (r : RgV) (w : World) : Calls Tryz.prog 57 #[.agg #[.slice r.A r.n r.c, .slice r.B r.m r.d]] w fun e w' => e = .returned (.slice r.B r.m r.d) ∧ Below w.heap.size w w' := by
  have HB : Sl _ := ⟨(Below.refl w.heap.size w).alloc (Nat.le_refl _) (.cells #[.slice r.A r.n r.c, .slice r.B r.m r.d] 45)⟩; go_enter Tryz.func57, Tryz.ntmps57; go_wp2_with fail; go_ret; exact ⟨rfl, HB.out⟩
theorem steps_couplers (T : Option Addr) (n c : Nat) (L : List RgV) (many : Nat) (w : World) (hT : TbM w T n c L) (hn : n ≤ 100000) (hm : many ≤ 100000) (hI : ∀ r ∈ L, r.m ≤ 100000 ∧ ∀ j, j < r.m → 0 ≤ gt r.k j ∧ gt r.k j < (many : Int)) :
    Calls Tryz.prog 55 #[.agg #[.slice T n c], .int .i64 (many : Int), .func (.func 57) #[] #[]] w fun e w' =>
      (∃ g, e = .returned (.tuple #[.slice (some ⟨g, 0, none⟩) many many, .int .i64 (stV 0 (L.map RgV.k) (fun _ => 0, 0)).2]) ∧ IRow w' g many (stV 0 (L.map RgV.k) (fun _ => 0, 0)).1 ∧ w.heap.size ≤ g) ∧ Below w.heap.size w w' := by
  have hrun : ∀ (args : Array Value) (w : World), (callFunc 57 args).run Tryz.prog w = .ok (.enter 57 args) w := fun a w => by go_simp
  obtain ⟨R, hR⟩ : ∃ R, stV 0 (L.map RgV.k) (fun _ => 0, 0) = R := ⟨_, rfl⟩; rw [hR]; have HR : Sl _ := ⟨hR⟩; have HT : Sl _ := ⟨hT⟩; have HI : Sl _ := ⟨hI⟩; have HB : Sl _ := ⟨(Below.refl w.heap.size w).alloc (Nat.le_refl _) (.cells #[.slice T n c] 53)⟩; have hmk := make_ints many (by omega); clear hR hT hI; go_enter Tryz.func55, Tryz.ntmps55; go_wp2_with fail; have HB2 : Sl (Below w.heap.size w ((w.alloc (.cells #[.slice T n c] 53)).alloc (.cells (madeCells #[.int .i64 0] many) 3))) := ⟨HB.out.alloc HB.out.size _⟩; have hir := IRow.made (w.alloc (.cells #[.slice T n c] 53)) many; rw [show (w.alloc (.cells #[.slice T n c] 53)).heap.size = w.heap.size + 1 by simp] at hir; have HIR : Sl _ := ⟨hir⟩; clear hir hmk HB; obtain ⟨g, hg⟩ : ∃ g, w.heap.size + 1 = g := ⟨_, rfl⟩; rw [hg] at HIR ⊢; have HG : Sl (w.heap.size ≤ g) := ⟨by omega⟩; clear hg; generalize (w.alloc (.cells #[.slice T n c] 53)).alloc (.cells (madeCells #[.int .i64 0] many) 3) = wi at *
  go_loopw [7, 17] (fun s7 s17 wr => ∃ (k : Nat) (f : Nat → Int) (tw : Int), k ≤ n ∧ s7 = .int .i64 tw ∧ s17 = .int .i64 k ∧ Sl (Below w.heap.size w wr ∧ IRow wr g many f) ∧ Sl (stV k ((L.map RgV.k).drop k) (f, tw) = R)) (fun _ s17 _ => n - (RowKit.intOf s17).toNat)
  case atStart => exact ⟨0, _, 0, Nat.zero_le _, rfl, rfl, ⟨HB2.out, HIR.out⟩, HR⟩
  case round =>
    clear HB2 HIR; obtain ⟨k, f, tw, hk, rfl, rfl, HM, HK⟩ := hrel
    by_cases hkn : k < n
    · have hkI : decide ((k : Int) < (n : Int)) = true := decide_eq_true (by omega); have hkI2 : (k : Int) < (n : Int) := (by omega); obtain ⟨gb, oo, x, hA, hgb, hx, x0, x1⟩ := (HT.out.below HM.out.1).at_ hkn; have HX : Sl (RgM w x) := ⟨HT.out.all x (List.mem_of_getElem? hx)⟩; have HXI : Sl _ := ⟨HI.out x (List.mem_of_getElem? hx)⟩; have hmx : (L.map RgV.k)[k]? = some x.k := (by rw [List.getElem?_map, hx]; rfl); have HST : Sl (stV (k + 1) ((L.map RgV.k).drop (k + 1)) (x.k.foldl (stU k) (f, tw)) = R) := ⟨by rw [← stV_drop _ hmx]; exact HK.out⟩; rw [hA]; clear hA hx hmx HK
      go_upto_region 5 with ((with_reducible show wpList _ _ _ _ _ _); first
        | (refine wpList_alloc_new 9 rfl rfl 45 rfl #[.slice none 0 0, .slice none 0 0] alloc_reg ?_; rintro wa gx zg zm zs zb; have HXA : Sl _ := ⟨And.intro zg (And.intro zm (And.intro zs zb))⟩; clear zg zm zs zb)
        | (refine wpList_store_whole rfl 45 (.tmp 9) (.tmp 21) rfl gx #[.slice x.A x.n x.c, .slice x.B x.m x.d] rfl rfl 45 _ HXA.out.2.2.2 rfl (by kernel_rfl) (by simp [Value.oneCell']) ?_; rintro wb zm zs zb; have HXS : Sl _ := ⟨And.intro zm (And.intro zs zb)⟩; clear zm zs zb))
      have hwb : Below wr.heap.size wr wb := below_mv (below_mv (Below.refl _ _) HXA.out.2.1 (Nat.le_refl _) (Nat.le_refl _)) HXS.out.1 (by have := HXA.out.1; omega) (by have := HXA.out.1; have := HXA.out.2.2.1; omega); have y0 := HXS.out.2.2.cell 0; have y1 := HXS.out.2.2.cell 1; simp at y0 y1; replace HM : Sl (Below w.heap.size w wb ∧ IRow wb g many f) := ⟨HM.out.1.trans (hwb.mono HM.out.1.size), HM.out.2.below hwb HM.out.2.lt⟩; clear x0 x1 hwb HXA HXS; go_wp2_with fail; refine (couplersOf_any x wb).mono ?_; rintro e wc ⟨rfl, hb⟩; replace HM : Sl (Below w.heap.size w wc ∧ IRow wc g many f) := ⟨HM.out.1.trans (hb.mono HM.out.1.size), HM.out.2.below hb HM.out.2.lt⟩; have HXL : Sl (II w x.B x.m x.k) := ⟨HX.out.c⟩; clear hb y0 y1 HX; obtain ⟨M, hM⟩ : ∃ M, x.k.foldl (stU k) (f, tw) = M := ⟨_, rfl⟩; rw [hM] at HST; have HMM : Sl _ := ⟨hM⟩; clear hM; obtain ⟨xl, hxl⟩ : ∃ xl, x.k = xl := ⟨_, rfl⟩; obtain ⟨xn, hxn⟩ : ∃ xn, x.m = xn := ⟨_, rfl⟩; obtain ⟨xA, hxA⟩ : ∃ xA, x.B = xA := ⟨_, rfl⟩; rw [hxl] at HXI HXL HMM; rw [hxn] at HXI HXL ⊢; rw [hxA] at HXL ⊢; clear hxl hxn hxA; go_wp2_with fail
      go_loopw [7, 26] (fun s7 s26 wv => ∃ (j : Nat) (h : Nat → Int) (tv : Int), j ≤ xn ∧ s7 = .int .i64 tv ∧ s26 = .int .i64 j ∧ Sl (Below w.heap.size w wv ∧ IRow wv g many h) ∧ Sl ((xl.drop j).foldl (stU k) (h, tv) = M)) (fun _ s26 _ => xn - (RowKit.intOf s26).toNat)
      case atStart => exact ⟨0, f, tw, Nat.zero_le _, rfl, rfl, HM, HMM⟩
      case round =>
        clear HM HMM; obtain ⟨j, h, tv, hj, rfl, rfl, HM, HJ⟩ := hrel
        by_cases hjn : j < xn
        · have hjI : decide ((j : Int) < (xn : Int)) = true := decide_eq_true (by omega); have hjI2 : (j : Int) < (xn : Int) := (by omega); obtain ⟨ad, hA2, hab, c1⟩ := (HXL.out.below HM.out.1).cell (j := j) hjn; have hz := HXI.out.2 j hjn; have hxb : (xn : Int) ≤ 100000 := (by have := HXI.out.1; omega); have HD : Sl ((xl.drop (j + 1)).foldl (stU k) (stU k (h, tv) (gt xl j)) = M) := ⟨by rw [← stU_drop (by rw [HXL.out.1]; exact hjn)]; exact HJ.out⟩; obtain ⟨z, hzz⟩ : ∃ z, gt xl j = z := ⟨_, rfl⟩; rw [hzz] at hz HD c1; clear hzz HJ; rw [hA2]; clear hA2; obtain ⟨zn, rfl⟩ := Int.eq_ofNat_of_zero_le hz.1; have hzI : (zn : Int) < (many : Int) := hz.2; have hzN : zn < many := (by omega); have c2 := HM.out.2.cell hzN; have f2 := HM.out.2.frozen zn; have HSET : Sl _ := ⟨fun v : Int => HM.out.2.set (i := zn) v⟩; have HBS : Sl _ := ⟨fun v : Value => HM.out.1.setCell (p := ⟨g, zn, none⟩) HG.out v⟩; obtain ⟨y, hy⟩ : ∃ y, h zn = y := ⟨_, rfl⟩; rw [hy] at c2; have HU : Sl (stU k (h, tv) (zn : Int) = (fun m => if m = zn then (k : Int) + 1 else h m, if 0 < y ∧ tv = 0 then (k : Int) + 1 else tv)) := ⟨by rw [← hy]; rfl⟩; clear hy hz; have hk100 : (k : Int) ≤ 100000 := (by omega)
          by_cases p1 : 0 < y
          · have p1d : decide (0 < y) = true := decide_eq_true p1
            by_cases p2 : tv = 0
            · subst p2; rw [if_pos ⟨p1, rfl⟩] at HU; go_wp2_with fail; exact ⟨⟨j + 1, _, _, by omega, rfl, by go_num, ⟨HBS.out _, HSET.out _⟩, ⟨by rw [← HU.out]; exact HD.out⟩⟩, by simp [RowKit.intOf]; omega⟩
            · have p2d : (tv == 0) = false := (by rw [beq_eq_false_iff_ne]; exact p2); rw [if_neg (fun hh => p2 hh.2)] at HU; clear p2; go_wp2_with fail; exact ⟨⟨j + 1, _, _, by omega, rfl, by go_num, ⟨HBS.out _, HSET.out _⟩, ⟨by rw [← HU.out]; exact HD.out⟩⟩, by simp [RowKit.intOf]; omega⟩
          · have p1d : decide (0 < y) = false := decide_eq_false p1; rw [if_neg (fun hh => p1 hh.1)] at HU; go_wp2_with fail; exact ⟨⟨j + 1, _, _, by omega, rfl, by go_num, ⟨HBS.out _, HSET.out _⟩, ⟨by rw [← HU.out]; exact HD.out⟩⟩, by simp [RowKit.intOf]; omega⟩
        · obtain rfl : j = xn := (by omega); have HMV : Sl (M = (h, tv)) := ⟨by rw [← HJ.out, ← HXL.out.1, List.drop_length]; rfl⟩; rw [HMV.out] at HST; go_wp2_with fail; exact ⟨⟨k + 1, h, tv, by omega, rfl, by go_num, HM, HST⟩, by simp [RowKit.intOf]; omega⟩
    · obtain rfl : k = n := (by omega); have HRV : Sl (R = (f, tw)) := ⟨by rw [← HK.out, show k = (L.map RgV.k).length by rw [List.length_map]; exact HT.out.row.len.symm, List.drop_length]; rfl⟩; go_wp2_with fail; go_ret2; exact ⟨⟨g, by rw [HRV.out]; rfl, by rw [HRV.out]; exact HM.out.2, HG.out⟩, HM.out.1⟩
structure Lg (w W : World) (l : List (Nat × TypeId × Array Value)) : Prop where
  ld : Led w W l
  nd : (l.map Prod.fst).Nodup
theorem Lg.nil (w : World) : Lg w w [] := ⟨Led.nil w, List.Pairwise.nil⟩
theorem Lg.bl {w W : World} {l : List (Nat × TypeId × Array Value)} (h : Lg w W l) : Below w.heap.size w W := h.ld.bl
theorem Lg.at_ {w W : World} {l : List (Nat × TypeId × Array Value)} (h : Lg w W l) (k : Nat) {g : Nat} {t : TypeId} {cs : Array Value} (hk : l[k]? = some (g, t, cs)) : Blk W g t cs := h.ld.at_ k hk
theorem Lg.below {w W W' : World} {l : List (Nat × TypeId × Array Value)} (h : Lg w W l) (hb : Below W.heap.size W W') : Lg w W' l := ⟨h.ld.below hb, h.nd⟩
theorem Lg.new {w W W' : World} {g : Nat} {t : TypeId} {cs : Array Value} {l : List (Nat × TypeId × Array Value)} (h : Lg w W l) (zg : g = W.heap.size) (zm : Mv W.heap.size W W') (zb : Blk W' g t cs) : Lg w W' ((g, t, cs) :: l) := by
  refine ⟨h.ld.new zg zm zb, ?_⟩; rw [List.map_cons, List.nodup_cons]; refine ⟨fun hm => ?_, h.nd⟩; obtain ⟨p, hp, e⟩ := List.mem_map.1 hm; have := (h.ld.all p hp).lt; simp only [] at e; omega
theorem Lg.drop {w W : World} {p : Nat × TypeId × Array Value} {l : List (Nat × TypeId × Array Value)} (h : Lg w W (p :: l)) : Lg w W l := ⟨h.ld.drop, (List.nodup_cons.1 h.nd).2⟩
theorem Lg.upd {w W W' : World} {g : Nat} {t t' : TypeId} {cs cs' : Array Value} {l : List (Nat × TypeId × Array Value)} (h : Lg w W ((g, t, cs) :: l)) (hm : Mv g W W') (zb : Blk W' g t' cs') : Lg w W' ((g, t', cs') :: l) := by
  have hn := List.nodup_cons.1 h.nd; refine ⟨h.ld.upd hm zb (fun p hp e => hn.1 ?_), h.nd⟩; rw [← e]; exact List.mem_map.2 ⟨p, hp, rfl⟩
theorem Lg.mv {w W W' : World} {g : Nat} {l : List (Nat × TypeId × Array Value)} (h : Lg w W l) (hm : Mv g W W') (hg : w.heap.size ≤ g) (hne : ∀ p ∈ l, p.1 ≠ g) : Lg w W' l := ⟨h.ld.mv hm hg hne, h.nd⟩
theorem flG_take {α : Type} (f : α → List Value) (L : List α) (k j : Nat) (u : Value) (h : ((L.take k).flatMap f)[j]? = some u) : (L.flatMap f)[j]? = some u := by
  have hj : j < ((L.take k).flatMap f).length := (List.getElem?_eq_some_iff.1 h).1; have e : L.flatMap f = (L.take k).flatMap f ++ (L.drop k).flatMap f := (by rw [← List.flatMap_append, List.take_append_drop]); rw [e, List.getElem?_append_left hj]; exact h
theorem TbM.take {w : World} {A : Option Addr} {n c : Nat} {L : List RgV} (h : TbM w A n c L) {k : Nat} (hk : k ≤ n) : TbM w A k c (L.take k) := by
  have hl := h.row.len; refine ⟨⟨by rw [List.length_take]; omega, ⟨by rw [flG_len RgV.cells 2 h.row.fix, List.length_take]; congr 1; omega, fun h0 => ?_⟩, h.row.fix⟩, ⟨by have := h.cap; omega, h.cap.2⟩, fun r hr => h.all r (List.mem_of_mem_take hr)⟩; obtain ⟨ad, e, hb, hc⟩ := h.row.rd.2 (by omega); exact ⟨ad, e, hb, fun j u hu => hc j u (flG_take _ _ _ _ _ hu)⟩
theorem alloc_cre (w : World) : (Instr.alloc 53 true (.tuple #[])).run Tryz.prog w = .ok (.pointer (some ⟨w.heap.size, 0, none⟩)) (w.alloc (.cells #[.slice none 0 0] 53)) := by kernel_rfl
def rg0 : RgV := ⟨none, 0, 0, [], none, 0, 0, []⟩
def tabK (o : SpO) (L : List RgV) (i : Nat) : Int :=
  if regE o (L[i]?.getD rg0) = 0 then (if 0 < (stV 0 ((L.take (i + 1)).map RgV.l) (fun _ => 0, 0)).2 ∨ 0 < (stV 0 ((L.take (i + 1)).map RgV.k) (fun _ => 0, 0)).2 then 8 else 0) else regE o (L[i]?.getD rg0)
def tabE (o : SpO) (L : List RgV) : Int := if specE o = 0 then (if 60 < L.length then 3 else fstE (tabK o L) L.length 0) else specE o
theorem regE_ok {o : SpO} {r : RgV} (h : regE o r = 0) : drwE r.l (o.n3 : Int) = 0 ∧ drwE r.k (o.n4 : Int) = 0 := by
  unfold regE at h
  by_cases h1 : drwE r.l (o.n3 : Int) = 0
  · rw [if_pos h1] at h; exact ⟨h1, h⟩
  · rw [if_neg h1] at h; exact absurd h h1
theorem drwE_len {l : List Int} {many : Nat} (h : drwE l (many : Int) = 0) : l.length ≤ many := by
  rcases Nat.eq_zero_or_pos l.length with h0 | h0
  · omega
  · have key : ∀ k, k < l.length → (k : Int) ≤ gt l k := fun k => by
      induction k with
      | zero => intro hk; have := (drwE_ok h hk).1.1; omega
      | succ k ih =>
        intro hk; have h1 := ih (by omega); have h2 := (drwE_ok h hk).2 k (by omega); omega
    have h1 := key (l.length - 1) (by omega); have h2 := (drwE_ok h (show l.length - 1 < l.length by omega)).1.2; omega
theorem specE_bd {o : SpO} (h : specE o = 0) : o.n1 ≤ 6 ∧ o.n2 ≤ 40 ∧ o.n3 ≤ 80 ∧ o.n4 ≤ 24 := by
  unfold specE at h
  split at h
  · cases h
  · omega
theorem crCheck_any (o : SpO) (T : Option Addr) (n c : Nat) (L : List RgV) (w : World) (hM : SpM w o) (hF : SpF o) (hT : TbM w T n c L) :
    Calls Tryz.prog 111 #[.agg #[.slice o.A1 o.n1 o.c1, .slice o.A2 o.n2 o.c2, .slice o.A3 o.n3 o.c3, .slice o.A4 o.n4 o.c4], .agg #[.slice T n c]] w fun e w' => e = .returned (.int .i64 (tabE o L)) ∧ Below w.heap.size w w' := by
  have HE : Sl (tabE o L = if specE o = 0 then (if 60 < n then 3 else fstE (tabK o L) n 0) else specE o) := ⟨by rw [← hT.row.len]; rfl⟩; obtain ⟨r, hr⟩ : ∃ r, tabE o L = r := ⟨_, rfl⟩; rw [hr] at HE ⊢; have HM : Sl _ := ⟨hM⟩; have HF : Sl _ := ⟨hF⟩; have HT : Sl _ := ⟨hT⟩; have HD : Sl (Lg w w []) := ⟨Lg.nil w⟩; have HSC : Sl _ := ⟨fun (W : World) (hW : Below w.heap.size w W) => speccheck_any o W (hM.below hW) hF⟩; obtain ⟨s, hs⟩ : ∃ s, specE o = s := ⟨_, rfl⟩; have HBD : Sl (s = 0 → o.n1 ≤ 6 ∧ o.n2 ≤ 40 ∧ o.n3 ≤ 80 ∧ o.n4 ≤ 24) := ⟨fun h => specE_bd (by rw [hs, h])⟩; unfold SpecR at HSC; rw [hs] at HE HSC; have hcap := hT.cap; unfold maxLen at hcap; have HCAP : Sl _ := ⟨hcap⟩; clear hM hF hT hr hs hcap; go_enter Tryz.func111, Tryz.ntmps111
  go_upto_region 1 with ((with_reducible show wpList _ _ _ _ _ _); first
    | (refine wpList_box_new 2 rfl rfl 33 (.tmp 0) rfl #[.slice o.A1 o.n1 o.c1, .slice o.A2 o.n2 o.c2, .slice o.A3 o.n3 o.c3, .slice o.A4 o.n4 o.c4] rfl (fun _ => by kernel_rfl) ?_; rintro ws gs zg zm zs zb; replace HD : Sl _ := ⟨HD.out.new zg zm zb⟩; clear zg zm zs zb)
    | (refine wpList_box_new 3 rfl rfl 53 (.tmp 1) rfl #[.slice T n c] rfl (fun _ => by kernel_rfl) ?_; rintro wt gtb zg zm zs zb; replace HD : Sl _ := ⟨HD.out.new zg zm zb⟩; clear zg zm zs zb))
  have s0 := (HD.out.at_ 1 rfl).cell 0; have s1 := (HD.out.at_ 1 rfl).cell 1; have s2 := (HD.out.at_ 1 rfl).cell 2; have s3 := (HD.out.at_ 1 rfl).cell 3; simp at s0 s1 s2 s3; go_wp2_with fail; refine (HSC.out _ HD.out.bl).mono ?_; rintro e w1 ⟨⟨a1, a2, a3, rfl⟩, hb⟩; replace HD : Sl _ := ⟨HD.out.below hb⟩; clear HSC hb s0 s1 s2 s3
  go_upto_region 2 with ((with_reducible show wpList _ _ _ _ _ _); first
    | (refine wpList_alloc_new 5 rfl rfl 72 rfl #[.int .i64 0, .int .i64 0, .int .i64 0] alloc_fault ?_; rintro w2 gf zg zm zs zb; replace HD : Sl _ := ⟨HD.out.new zg zm zb⟩; clear zg zm zs zb)
    | (refine wpList_store_whole rfl 72 (.tmp 5) (.tmp 18) rfl gf #[.int .i64 a1, .int .i64 a2, .int .i64 a3] rfl rfl 72 _ (HD.out.at_ 0 rfl) rfl (by kernel_rfl) (by simp [Value.oneCell']) ?_; rintro w3 zm zs zb; replace HD : Sl _ := ⟨HD.out.upd zm zb⟩; clear zm zs zb))
  replace HD : Sl _ := ⟨HD.out.drop⟩
  by_cases hs0 : s = 0
  · subst hs0; rw [if_pos rfl] at HE; have HN := HBD.out rfl; have HNB : Sl _ := ⟨HN⟩; clear HN; have t0 := (HD.out.at_ 0 rfl).cell 0; simp at t0
    by_cases h60 : 60 < n
    · have q1 : decide ((60 : Int) < (n : Int)) = true := decide_eq_true (by omega); have q2 : (60 : Int) < (n : Int) := (by omega); have HR : Sl (r = 3) := ⟨by rw [HE.out, if_pos h60]⟩; clear h60; go_wp2_with fail; go_ret; exact ⟨by rw [HR.out]; rfl, HD.out.bl⟩
    · have q1 : decide ((60 : Int) < (n : Int)) = false := decide_eq_false (by omega); have q2 : ¬ (60 : Int) < (n : Int) := (by omega); rw [if_neg h60] at HE; have HN60 : Sl (n ≤ 60) := ⟨by omega⟩; clear h60; go_wp2_with fail; clear q1 q2 t0
      go_loopw [30] (fun s30 wr => ∃ (k : Nat), k ≤ n ∧ s30 = .int .i64 k ∧ Sl (Lg w wr [(gtb, 53, #[.slice T n c]), (gs, 33, #[.slice o.A1 o.n1 o.c1, .slice o.A2 o.n2 o.c2, .slice o.A3 o.n3 o.c3, .slice o.A4 o.n4 o.c4])]) ∧ Sl (∀ j, j < k → regE o (L[j]?.getD rg0) = 0) ∧ Sl (fstE (tabK o L) (n - k) k = r)) (fun s30 _ => n - (RowKit.intOf s30).toNat)
      case atStart => exact ⟨0, Nat.zero_le _, rfl, HD, ⟨fun j hj => absurd hj (Nat.not_lt_zero _)⟩, ⟨HE.out.symm⟩⟩
      case round =>
        clear HD HE; obtain ⟨k, hk, rfl, HD, HJ, HK⟩ := hrel
        by_cases hkn : k < n
        · have hkI : decide ((k : Int) < (n : Int)) = true := decide_eq_true (by omega); have hkI2 : (k : Int) < (n : Int) := (by omega); have hk60 : (k : Int) ≤ 60 := (by have := HN60.out; omega); have hn60 : (n : Int) ≤ 60 := (by have := HN60.out; omega); have HST : Sl (r = if tabK o L k = 0 then fstE (tabK o L) (n - (k + 1)) (k + 1) else tabK o L k) := ⟨by rw [← HK.out, show n - k = (n - (k + 1)) + 1 by omega]; rfl⟩; obtain ⟨gb, oo, x, hA, hgb, hx, x0, x1⟩ := (HT.out.below HD.out.bl).at_ hkn; have HTK : Sl (tabK o L k = if regE o x = 0 then (if 0 < (stV 0 ((L.take (k + 1)).map RgV.l) (fun _ => 0, 0)).2 ∨ 0 < (stV 0 ((L.take (k + 1)).map RgV.k) (fun _ => 0, 0)).2 then 8 else 0) else regE o x) := ⟨by unfold tabK; rw [hx]; rfl⟩; have HXR : Sl (L[k]?.getD rg0 = x) := ⟨by rw [hx]; rfl⟩; have HRG : Sl _ := ⟨fun (W : World) (hW : Below w.heap.size w W) => registration_any o x W ((HT.out.all x (List.mem_of_getElem? hx)).below hW) HF.out⟩; obtain ⟨e1, he1⟩ : ∃ e1, regE o x = e1 := ⟨_, rfl⟩; rw [he1] at HTK HRG; have HE1 : Sl _ := ⟨he1⟩; have HKN : Sl (k < n ∧ k + 1 ≤ c) := ⟨hkn, by have := HT.out.cap.1; omega⟩; have hkc : (k : Int) + 1 ≤ (c : Int) := (by have := HT.out.cap.1; omega); rw [hA]; have HA : Sl _ := ⟨hA⟩; clear hA hx he1 HK
          go_upto_region 9 with ((with_reducible show wpList _ _ _ _ _ _); first
            | (refine wpList_alloc_new 8 rfl rfl 45 rfl #[.slice none 0 0, .slice none 0 0] alloc_reg ?_; rintro w4 gx zg zm zs zb; replace HD : Sl _ := ⟨HD.out.new zg zm zb⟩; clear zg zm zs zb)
            | (refine wpList_store_whole rfl 45 (.tmp 8) (.tmp 34) rfl gx #[.slice x.A x.n x.c, .slice x.B x.m x.d] rfl rfl 45 _ (HD.out.at_ 0 rfl) rfl (by kernel_rfl) (by simp [Value.oneCell']) ?_; rintro w5 zm zs zb; replace HD : Sl _ := ⟨HD.out.upd zm zb⟩; clear zm zs zb))
          have s0 := (HD.out.at_ 2 rfl).cell 0; have s1 := (HD.out.at_ 2 rfl).cell 1; have s2 := (HD.out.at_ 2 rfl).cell 2; have s3 := (HD.out.at_ 2 rfl).cell 3; have y0 := (HD.out.at_ 0 rfl).cell 0; have y1 := (HD.out.at_ 0 rfl).cell 1; simp at s0 s1 s2 s3 y0 y1; clear x0 x1; go_wp2_with fail; refine (HRG.out _ HD.out.bl).mono ?_; rintro e w6 ⟨rfl, hb⟩; replace HD : Sl _ := ⟨(HD.out.below hb).drop⟩; clear HRG hb s0 s1 s2 s3 y0 y1
          by_cases he0 : e1 = 0
          · subst he0; rw [if_pos rfl] at HTK
            have HJ2 : Sl (∀ j, j < k + 1 → regE o (L[j]?.getD rg0) = 0) := ⟨fun j hj => by
              rcases Nat.lt_or_ge j k with h1 | h1
              · exact HJ.out j h1
              · obtain rfl : j = k := (by omega)
                rw [HXR.out]; exact HE1.out⟩
            have HIX : Sl (∀ y ∈ L.take (k + 1), (y.n ≤ 100000 ∧ ∀ j, j < y.n → 0 ≤ gt y.l j ∧ gt y.l j < (o.n3 : Int)) ∧ (y.m ≤ 100000 ∧ ∀ j, j < y.m → 0 ≤ gt y.k j ∧ gt y.k j < (o.n4 : Int))) := ⟨fun y hy => by
              obtain ⟨j, hj⟩ := List.mem_iff_getElem?.1 hy
              have hjk : j < k + 1 := by
                have := (List.getElem?_eq_some_iff.1 hj).1; rw [List.length_take] at this; omega
              rw [List.getElem?_take_of_lt hjk] at hj; have hr0 := HJ2.out j hjk; rw [hj, Option.getD_some] at hr0; obtain ⟨r1, r2⟩ := regE_ok hr0; have hrg := HT.out.all y (List.mem_of_getElem? hj); have l1 := drwE_len r1; have l2 := drwE_len r2; have hs1 := hrg.s.1; have hs2 := hrg.c.1; have hbd := HNB.out
              exact ⟨⟨by omega, fun i hi => (drwE_ok r1 (k := i) (by omega)).1⟩, ⟨by omega, fun i hi => (drwE_ok r2 (k := i) (by omega)).1⟩⟩⟩
            have t0 := (HD.out.at_ 0 rfl).cell 0; simp at t0; rw [HA.out] at t0; clear HE1 HJ
            go_upto_region 13 with ((with_reducible show wpList _ _ _ _ _ _); first
              | (refine wpList_alloc_new 10 rfl rfl 53 rfl #[.slice none 0 0] alloc_cre ?_; rintro w7 gu zg zm zs zb; replace HD : Sl _ := ⟨HD.out.new zg zm zb⟩; clear zg zm zs zb)
              | (refine wpList_store_whole rfl 53 (.tmp 10) (.tmp 46) rfl gu #[.slice (some ⟨gb, oo, none⟩) (k + 1) c] rfl rfl 53 _ (HD.out.at_ 0 rfl) rfl (by kernel_rfl) (by simp [Value.oneCell']) ?_; rintro w8 zm zs zb; replace HD : Sl _ := ⟨HD.out.upd zm zb⟩; clear zm zs zb))
            have u0 := (HD.out.at_ 0 rfl).cell 0; have c2 := (HD.out.at_ 2 rfl).cell 2; simp at u0 c2; have H1 : Sl _ := ⟨steps_stops (some ⟨gb, oo, none⟩) (k + 1) c (L.take (k + 1)) o.n3 w8 (by have := (HT.out.take HKN.out.1); rw [HA.out] at this; exact this.below HD.out.bl) (by have := HN60.out; have := HKN.out; omega) (by have := HNB.out; omega) (fun y hy => (HIX.out y hy).1)⟩; obtain ⟨t1, ht1⟩ : ∃ t1, (stV 0 ((L.take (k + 1)).map RgV.l) (fun _ => 0, 0)).2 = t1 := ⟨_, rfl⟩; obtain ⟨t2, ht2⟩ : ∃ t2, (stV 0 ((L.take (k + 1)).map RgV.k) (fun _ => 0, 0)).2 = t2 := ⟨_, rfl⟩; rw [ht1, ht2] at HTK; rw [ht1] at H1; have HT2 : Sl _ := ⟨ht2⟩; clear ht1 ht2 t0; go_wp2_with fail; refine H1.out.mono ?_; rintro e w9 ⟨⟨g1, rfl, _, _⟩, hb⟩; replace HD : Sl _ := ⟨HD.out.below hb⟩; clear H1 hb u0 c2; have u0 := (HD.out.at_ 0 rfl).cell 0; have c2 := (HD.out.at_ 2 rfl).cell 3; simp at u0 c2; have H1 : Sl _ := ⟨steps_couplers (some ⟨gb, oo, none⟩) (k + 1) c (L.take (k + 1)) o.n4 w9 (by have := (HT.out.take HKN.out.1); rw [HA.out] at this; exact this.below HD.out.bl) (by have := HN60.out; have := HKN.out; omega) (by have := HNB.out; omega) (fun y hy => (HIX.out y hy).2)⟩; rw [HT2.out] at H1; go_wp2_with fail; refine H1.out.mono ?_; rintro e wA ⟨⟨g2, rfl, _, _⟩, hb⟩; replace HD : Sl _ := ⟨(HD.out.below hb).drop⟩; clear H1 hb u0 c2 HT2 HIX
            by_cases p1 : 0 < t1
            · have p1d : decide (0 < t1) = true := decide_eq_true p1; have HD8 : tabK o L k = 8 := (by rw [HTK.out]; exact if_pos (.inl p1)); have HR : Sl (r = 8) := ⟨by rw [HST.out, HD8]; rfl⟩; clear HD8; go_wp2_with fail
              (try simp only [Exit.inBlock, Exit.then])
              go_ret; exact ⟨by rw [HR.out]; rfl, HD.out.bl⟩
            · have p1d : decide (0 < t1) = false := decide_eq_false p1
              by_cases p2 : 0 < t2
              · have p2d : decide (0 < t2) = true := decide_eq_true p2; have HD8 : tabK o L k = 8 := (by rw [HTK.out]; exact if_pos (.inr p2)); have HR : Sl (r = 8) := ⟨by rw [HST.out, HD8]; rfl⟩; clear HD8; go_wp2_with fail
                (try simp only [Exit.inBlock, Exit.then])
                go_ret; exact ⟨by rw [HR.out]; rfl, HD.out.bl⟩
              · have p2d : decide (0 < t2) = false := decide_eq_false p2; have HR : Sl (fstE (tabK o L) (n - (k + 1)) (k + 1) = r) := ⟨by rw [HST.out, if_pos]; rw [HTK.out, if_neg (by omega)]⟩; go_wp2_with fail; exact ⟨⟨k + 1, by omega, by go_num, by rw [← HA.out]; exact HD, HJ2, HR⟩, by simp [RowKit.intOf]; omega⟩
          · rw [if_neg he0] at HTK; have q0 : (e1 != 0) = true := (by rw [bne_iff_ne]; exact he0); have HR : Sl (r = e1) := ⟨by rw [HST.out, HTK.out, if_neg he0]⟩; clear he0; go_wp2_with fail
            (try simp only [Exit.inBlock, Exit.then])
            go_ret; exact ⟨by rw [HR.out]; rfl, HD.out.bl⟩
        · obtain rfl : k = n := (by omega); have HR : Sl (r = 0) := ⟨by rw [← HK.out, Nat.sub_self]; rfl⟩; go_wp2_with fail; go_ret; exact ⟨by rw [HR.out]; rfl, HD.out.bl⟩
  · rw [if_neg hs0] at HE; have q0 : (s != 0) = true := (by rw [bne_iff_ne]; exact hs0); clear hs0; go_wp2_with fail; go_ret; exact ⟨by rw [HE.out]; rfl, HD.out.bl⟩
end Go.Proofs.YtabkpbbjodfolaaGreatDoor
namespace Go.Proofs.YtabkpbbjodfolaaGreatDoor
open Go.ChangeShapes Go.WideShapes Go.ChangeAt Go.RowKit Go.Deep
theorem rows_trod {α : Type} {t e : TypeId} {sz : Nat} {cells : α → List Value} {fit : α → Prop} {H : Type} {enc : TypeId × Value → H} {W : World} (z0 : α) (hsz : ∀ x, (cells x).length = sz) (hpos : 0 < sz) (ht : Tryz.prog.underlying t = some (.slice e)) (hce : Tryz.prog.cellsOf e = sz)
    (hel : ∀ {fuel : Nat} {cs : List Value} {x : DataW H × List MemPlace}, DataW.trod enc Tryz.prog W 0 (fun _ => true) true fuel e cs = some x → (∀ p ∈ x.2, p.block < W.heap.size) → ∃ r : α, cs = cells r ∧ fit r)
    {fuel : Nat} {v : Value} {x : DataW H × List MemPlace} (h : DataW.trod enc Tryz.prog W 0 (fun _ => true) true fuel t [v] = some x) (hb : ∀ p ∈ x.2, p.block < W.heap.size) :
    ∃ A n c R, v = .slice A n c ∧ RowG W A n sz cells R ∧ (n ≤ c ∧ c ≤ maxLen) ∧ ∀ r ∈ R, fit r := by
  rcases open_slice ht h with ⟨hv, _⟩ | ⟨a, len, cap, m, n, D, Pl, hv, _, hlc, hcm, hm, hx, hi⟩
  · simp at hv; exact ⟨none, 0, 0, [], hv, RowG.nil _ _ _ _ hsz, ⟨Nat.le_refl _, Nat.zero_le _⟩, fun r hr => by cases hr⟩
  · simp at hv; subst hv; simp only [if_true] at hm; subst hm; rw [hx, hce] at hb
    have hel2 : ∀ i, ∃ r : α, i < m → (∀ t u, (cells r)[t]? = some u → W.cell? (a.add (i * sz + t)) = some u) ∧ fit r := fun i => by
      by_cases him : i < m
      · obtain ⟨cs', hc, htt⟩ := hi i him
        obtain ⟨r, rfl, g1⟩ := hel htt (fun p hp => hb p (by
          rw [List.mem_append]
          exact .inr (List.mem_flatMap.2 ⟨i, List.mem_range.2 him, hp⟩)))
        rw [hce] at hc; obtain ⟨_, hcl, hat⟩ := World.cells?_some hc; refine ⟨r, fun _ => ⟨fun t u hu => ?_, g1⟩⟩
        have ht6 : t < sz := by
          have := (List.getElem?_eq_some_iff.1 hu).1
          rwa [hsz] at this
        have := hat t (by exact ht6); rw [add_of_add] at this; rw [this, ← hu]
        try (rw [List.getElem?_eq_getElem (by rw [hsz]; exact ht6)])
      · exact ⟨z0, fun h => absurd h him⟩
    obtain ⟨B, hs⟩ := Classical.axiomOfChoice hel2; refine ⟨some a, len, m, (List.range len).map B, rfl, ⟨by simp, ⟨by rw [flG_len cells sz hsz]; simp, fun h0 => ⟨a, rfl, ?_, fun j u hu => ?_⟩⟩, hsz⟩, ⟨hlc, hcm⟩, fun r hr => ?_⟩
    · exact hb _ (List.mem_append_left _ (MemPlace.mem_row.2 ⟨0, Nat.mul_pos (by omega) hpos, rfl⟩))
    · have hjl : j < len * sz := by
        have := (List.getElem?_eq_some_iff.1 hu).1; rw [flG_len cells sz hsz] at this; simpa using this
      have hd : j / sz < len := Nat.div_lt_of_lt_mul (by rw [Nat.mul_comm]; exact hjl)
      have hq : ((List.range len).map B)[j / sz]? = some (B (j / sz)) := by
        rw [List.getElem?_map, List.getElem?_range hd]; rfl
      have hmod : j % sz < sz := Nat.mod_lt _ hpos; have hg := flG_get cells sz hsz _ _ _ (j % sz) hq hmod; have hjj : j / sz * sz + j % sz = j := (by rw [Nat.mul_comm]; exact Nat.div_add_mod j sz); rw [hjj] at hg; rw [hg] at hu; have := (hs (j / sz) (by omega)).1 (j % sz) u hu
      rwa [hjj] at this
    · obtain ⟨i, hi2⟩ := List.mem_iff_getElem?.1 hr; rw [List.getElem?_map] at hi2; rcases Nat.lt_or_ge i len with hil | hil
      · rw [List.getElem?_range hil] at hi2; injection hi2 with hi2
        rw [← hi2]; exact (hs i (by omega)).2
      · rw [List.getElem?_eq_none (by simpa using hil)] at hi2; cases hi2
theorem trod_structA6 {H : Type} {enc : TypeId × Value → H} {P : Program} {w : World} {base : Nat} {spare : Nat → Bool} {held : Bool} {t : TypeId} {f0 f1 f2 f3 f4 f5 : Field} {fuel : Nat} {cs : List Value} {x : DataW H × List MemPlace} (ht : P.underlying t = some (.struct #[f0, f1, f2, f3, f4, f5])) (h : DataW.trod enc P w base spare held fuel t cs = some x) :
    ∃ y0 y1 y2 y3 y4 y5 n, x = (.agg [y0.1, y1.1, y2.1, y3.1, y4.1, y5.1], y0.2 ++ (y1.2 ++ (y2.2 ++ (y3.2 ++ (y4.2 ++ y5.2))))) ∧ cs.length = P.cellsOf t ∧ DataW.trod enc P w base spare held n f0.type ((cs.drop f0.offset).take (P.cellsOf f0.type)) = some y0 ∧
      DataW.trod enc P w base spare held n f1.type ((cs.drop f1.offset).take (P.cellsOf f1.type)) = some y1 ∧ DataW.trod enc P w base spare held n f2.type ((cs.drop f2.offset).take (P.cellsOf f2.type)) = some y2 ∧
      DataW.trod enc P w base spare held n f3.type ((cs.drop f3.offset).take (P.cellsOf f3.type)) = some y3 ∧ DataW.trod enc P w base spare held n f4.type ((cs.drop f4.offset).take (P.cellsOf f4.type)) = some y4 ∧ DataW.trod enc P w base spare held n f5.type ((cs.drop f5.offset).take (P.cellsOf f5.type)) = some y5 := by
  obtain ⟨xs, n, _, rfl, hl, hlen, hf⟩ := DataW.trod_struct ht h
  match xs, hlen with
  | [y0, y1, y2, y3, y4, y5], _ => exact ⟨y0, y1, y2, y3, y4, y5, n, by simp, hl, by simpa using hf 0 f0 rfl, by simpa using hf 1 f1 rfl, by simpa using hf 2 f2 rfl, by simpa using hf 3 f3 rfl, by simpa using hf 4 f4 rfl, by simpa using hf 5 f5 rfl⟩
theorem trod_structA5 {H : Type} {enc : TypeId × Value → H} {P : Program} {w : World} {base : Nat} {spare : Nat → Bool} {held : Bool} {t : TypeId} {f0 f1 f2 f3 f4 : Field} {fuel : Nat} {cs : List Value} {x : DataW H × List MemPlace} (ht : P.underlying t = some (.struct #[f0, f1, f2, f3, f4])) (h : DataW.trod enc P w base spare held fuel t cs = some x) :
    ∃ y0 y1 y2 y3 y4 n, x = (.agg [y0.1, y1.1, y2.1, y3.1, y4.1], y0.2 ++ (y1.2 ++ (y2.2 ++ (y3.2 ++ y4.2)))) ∧ cs.length = P.cellsOf t ∧ DataW.trod enc P w base spare held n f0.type ((cs.drop f0.offset).take (P.cellsOf f0.type)) = some y0 ∧
      DataW.trod enc P w base spare held n f1.type ((cs.drop f1.offset).take (P.cellsOf f1.type)) = some y1 ∧ DataW.trod enc P w base spare held n f2.type ((cs.drop f2.offset).take (P.cellsOf f2.type)) = some y2 ∧
      DataW.trod enc P w base spare held n f3.type ((cs.drop f3.offset).take (P.cellsOf f3.type)) = some y3 ∧ DataW.trod enc P w base spare held n f4.type ((cs.drop f4.offset).take (P.cellsOf f4.type)) = some y4 := by
  obtain ⟨xs, n, _, rfl, hl, hlen, hf⟩ := DataW.trod_struct ht h
  match xs, hlen with
  | [y0, y1, y2, y3, y4], _ => exact ⟨y0, y1, y2, y3, y4, n, by simp, hl, by simpa using hf 0 f0 rfl, by simpa using hf 1 f1 rfl, by simpa using hf 2 f2 rfl, by simpa using hf 3 f3 rfl, by simpa using hf 4 f4 rfl⟩
theorem trod_structA4 {H : Type} {enc : TypeId × Value → H} {P : Program} {w : World} {base : Nat} {spare : Nat → Bool} {held : Bool} {t : TypeId} {f0 f1 f2 f3 : Field} {fuel : Nat} {cs : List Value} {x : DataW H × List MemPlace} (ht : P.underlying t = some (.struct #[f0, f1, f2, f3])) (h : DataW.trod enc P w base spare held fuel t cs = some x) :
    ∃ y0 y1 y2 y3 n, x = (.agg [y0.1, y1.1, y2.1, y3.1], y0.2 ++ (y1.2 ++ (y2.2 ++ y3.2))) ∧ cs.length = P.cellsOf t ∧ DataW.trod enc P w base spare held n f0.type ((cs.drop f0.offset).take (P.cellsOf f0.type)) = some y0 ∧
      DataW.trod enc P w base spare held n f1.type ((cs.drop f1.offset).take (P.cellsOf f1.type)) = some y1 ∧ DataW.trod enc P w base spare held n f2.type ((cs.drop f2.offset).take (P.cellsOf f2.type)) = some y2 ∧
      DataW.trod enc P w base spare held n f3.type ((cs.drop f3.offset).take (P.cellsOf f3.type)) = some y3 := by
  obtain ⟨xs, n, _, rfl, hl, hlen, hf⟩ := DataW.trod_struct ht h
  match xs, hlen with
  | [y0, y1, y2, y3], _ => exact ⟨y0, y1, y2, y3, n, by simp, hl, by simpa using hf 0 f0 rfl, by simpa using hf 1 f1 rfl, by simpa using hf 2 f2 rfl, by simpa using hf 3 f3 rfl⟩
section
variable {H : Type} {enc : TypeId × Value → H} {W : World} {fuel : Nat} {cs : List Value} {x : DataW H × List MemPlace}
theorem sfeet_trod (h : DataW.trod enc Tryz.prog W 0 (fun _ => true) true fuel 87 cs = some x) : ∃ num den : Int, cs = [.int .i64 num, .int .i64 den] ∧ i64 num ∧ i64 den := by
  obtain ⟨y0, y1, n, hx, hl, h0, h1⟩ := trod_structA2 Tryz.underlying87 h; have c1 : Tryz.prog.cellsOf 3 = 1 := (by kernel_rfl); have c7 : Tryz.prog.cellsOf 87 = 2 := (by kernel_rfl); rw [c7] at hl
  match cs, hl with
  | [u0, u1], _ =>
    simp only [c1, List.drop_zero, List.drop_succ_cons, List.take_succ_cons, List.take_zero] at h0 h1; obtain ⟨a, e0, _, ha⟩ := DataW.trod_int Tryz.underlying3 h0; obtain ⟨b, e1, _, hb⟩ := DataW.trod_int Tryz.underlying3 h1; simp at e0 e1; subst e0 e1; exact ⟨a, b, rfl, wf_i64 ha, wf_i64 hb⟩
theorem sdiv_trod (h : DataW.trod enc Tryz.prog W 0 (fun _ => true) true fuel 98 cs = some x) : ∃ r : DvV, cs = r.cells ∧ r.nm.size ≤ maxLen ∧ i64 r.lo ∧ i64 r.hi := by
  obtain ⟨y0, y1, y2, n, hx, hl, h0, h1, h2⟩ := trod_structA3 Tryz.underlying98 h; have c1 : Tryz.prog.cellsOf 3 = 1 := (by kernel_rfl); have c2 : Tryz.prog.cellsOf 9 = 1 := (by kernel_rfl); have c7 : Tryz.prog.cellsOf 98 = 3 := (by kernel_rfl); rw [c7] at hl
  match cs, hl with
  | [u0, u1, u2], _ =>
    simp only [c1, c2, List.drop_zero, List.drop_succ_cons, List.take_succ_cons, List.take_zero] at h0 h1 h2; obtain ⟨s, e0, _, hs⟩ := DataW.trod_string Tryz.underlying9 h0; obtain ⟨a, e1, _, ha⟩ := DataW.trod_int Tryz.underlying3 h1; obtain ⟨b, e2, _, hb⟩ := DataW.trod_int Tryz.underlying3 h2; simp at e0 e1 e2; subst e0 e1 e2; exact ⟨⟨s, a, b⟩, rfl, hs, wf_i64 ha, wf_i64 hb⟩
theorem srank_trod (h : DataW.trod enc Tryz.prog W 0 (fun _ => true) true fuel 100 cs = some x) : ∃ r : RnV, cs = r.cells ∧ r.nm.size ≤ maxLen ∧ i64 r.kd ∧ i64 r.fn ∧ i64 r.fd ∧ i64 r.lo ∧ i64 r.ct := by
  obtain ⟨y0, y1, y2, y3, y4, n, hx, hl, h0, h1, h2, h3, h4⟩ := trod_structA5 Tryz.underlying100 h; have c1 : Tryz.prog.cellsOf 3 = 1 := (by kernel_rfl); have c2 : Tryz.prog.cellsOf 9 = 1 := (by kernel_rfl); have c3 : Tryz.prog.cellsOf 87 = 2 := (by kernel_rfl); have c7 : Tryz.prog.cellsOf 100 = 6 := (by kernel_rfl); rw [c7] at hl
  match cs, hl with
  | [u0, u1, u2, u3, u4, u5], _ =>
    simp only [c1, c2, c3, List.drop_zero, List.drop_succ_cons, List.take_succ_cons, List.take_zero] at h0 h1 h2 h3 h4; obtain ⟨s, e0, _, hs⟩ := DataW.trod_string Tryz.underlying9 h0; obtain ⟨k, e1, _, hk⟩ := DataW.trod_int Tryz.underlying3 h1; obtain ⟨a, b, e2, ha, hb⟩ := sfeet_trod h2; obtain ⟨lo, e3, _, hlo⟩ := DataW.trod_int Tryz.underlying3 h3; obtain ⟨ct, e4, _, hct⟩ := DataW.trod_int Tryz.underlying3 h4; simp at e0 e1 e2 e3 e4; obtain ⟨e2, e2'⟩ := e2; subst e0 e1 e2 e2' e3 e4; exact ⟨⟨s, k, a, b, lo, ct⟩, rfl, hs, wf_i64 hk, ha, hb, wf_i64 hlo, wf_i64 hct⟩
theorem spart_trod (h : DataW.trod enc Tryz.prog W 0 (fun _ => true) true fuel 102 cs = some x) : ∃ r : PrV, cs = r.cells ∧ i64 r.rk ∧ i64 r.sh ∧ i64 r.lo ∧ i64 r.hi := by
  obtain ⟨y0, y1, y2, y3, n, hx, hl, h0, h1, h2, h3⟩ := trod_structA4 Tryz.underlying102 h; have c1 : Tryz.prog.cellsOf 3 = 1 := (by kernel_rfl); have c7 : Tryz.prog.cellsOf 102 = 4 := (by kernel_rfl); rw [c7] at hl
  match cs, hl with
  | [u0, u1, u2, u3], _ =>
    simp only [c1, List.drop_zero, List.drop_succ_cons, List.take_succ_cons, List.take_zero] at h0 h1 h2 h3; obtain ⟨a, e0, _, ha⟩ := DataW.trod_int Tryz.underlying3 h0; obtain ⟨b, e1, _, hb⟩ := DataW.trod_int Tryz.underlying3 h1; obtain ⟨c, e2, _, hc⟩ := DataW.trod_int Tryz.underlying3 h2; obtain ⟨d, e3, _, hd⟩ := DataW.trod_int Tryz.underlying3 h3; simp at e0 e1 e2 e3; subst e0 e1 e2 e3; exact ⟨⟨a, b, c, d⟩, rfl, wf_i64 ha, wf_i64 hb, wf_i64 hc, wf_i64 hd⟩
theorem scoup_trod (h : DataW.trod enc Tryz.prog W 0 (fun _ => true) true fuel 93 cs = some x) : ∃ r : CpV, cs = r.cells ∧ r.nm.size ≤ maxLen ∧ i64 r.fr ∧ i64 r.tt ∧ i64 r.sh ∧ i64 r.on := by
  obtain ⟨y0, y1, y2, y3, y4, y5, n, hx, hl, h0, h1, h2, h3, h4, h5⟩ := trod_structA6 Tryz.underlying93 h; have c1 : Tryz.prog.cellsOf 3 = 1 := (by kernel_rfl); have c2 : Tryz.prog.cellsOf 9 = 1 := (by kernel_rfl); have c3 : Tryz.prog.cellsOf 4 = 1 := (by kernel_rfl); have c7 : Tryz.prog.cellsOf 93 = 6 := (by kernel_rfl); rw [c7] at hl
  match cs, hl with
  | [u0, u1, u2, u3, u4, u5], _ =>
    simp only [c1, c2, c3, List.drop_zero, List.drop_succ_cons, List.take_succ_cons, List.take_zero] at h0 h1 h2 h3 h4 h5; obtain ⟨s, e0, _, hs⟩ := DataW.trod_string Tryz.underlying9 h0; obtain ⟨a, e1, _, ha⟩ := DataW.trod_int Tryz.underlying3 h1; obtain ⟨b, e2, _, hb⟩ := DataW.trod_int Tryz.underlying3 h2; obtain ⟨c, e3, _, hc⟩ := DataW.trod_int Tryz.underlying3 h3; obtain ⟨d, e4, _, hd⟩ := DataW.trod_int Tryz.underlying3 h4; obtain ⟨f, e5, _⟩ := DataW.trod_bool Tryz.underlying4 h5; simp at e0 e1 e2 e3 e4 e5; subst e0 e1 e2 e3 e4 e5; exact ⟨⟨s, a, b, c, d, f⟩, rfl, hs, wf_i64 ha, wf_i64 hb, wf_i64 hc, wf_i64 hd⟩
theorem sstop_trod (h : DataW.trod enc Tryz.prog W 0 (fun _ => true) true fuel 90 cs = some x) (hb : ∀ p ∈ x.2, p.block < W.heap.size) :
    ∃ r : SpV, cs = r.cells ∧ RowG W r.A r.n 4 PrV.cells r.ps ∧ r.nm.size ≤ maxLen ∧ i64 r.dv ∧ i64 r.fn ∧ i64 r.fd ∧ (r.n ≤ r.c ∧ r.c ≤ maxLen) ∧ ∀ p ∈ r.ps, i64 p.rk ∧ i64 p.sh ∧ i64 p.lo ∧ i64 p.hi := by
  obtain ⟨y0, y1, y2, y3, n, hx, hl, h0, h1, h2, h3⟩ := trod_structA4 Tryz.underlying90 h; have c1 : Tryz.prog.cellsOf 3 = 1 := (by kernel_rfl); have c2 : Tryz.prog.cellsOf 9 = 1 := (by kernel_rfl); have c3 : Tryz.prog.cellsOf 87 = 2 := (by kernel_rfl); have c4 : Tryz.prog.cellsOf 88 = 1 := (by kernel_rfl); have c7 : Tryz.prog.cellsOf 90 = 5 := (by kernel_rfl); rw [c7] at hl
  match cs, hl with
  | [u0, u1, u2, u3, u4], _ =>
    simp only [c1, c2, c3, c4, List.drop_zero, List.drop_succ_cons, List.take_succ_cons, List.take_zero] at h0 h1 h2 h3; obtain ⟨s, e0, _, hs⟩ := DataW.trod_string Tryz.underlying9 h0; obtain ⟨k, e1, _, hk⟩ := DataW.trod_int Tryz.underlying3 h1; obtain ⟨a, b, e2, ha, hb2⟩ := sfeet_trod h2; obtain ⟨A, n1, c, R, e3, g1, g2, g3⟩ := rows_trod (sz := 4) (fit := fun p : PrV => i64 p.rk ∧ i64 p.sh ∧ i64 p.lo ∧ i64 p.hi) (cells := PrV.cells) ⟨0, 0, 0, 0⟩ (fun _ => rfl) (by decide) Tryz.underlying88 (by kernel_rfl) (fun ht _ => spart_trod ht) h3 (fun p hp => hb p (by rw [hx]; simp [hp])); simp at e0 e1 e2; obtain ⟨e2, e2'⟩ := e2; subst e0 e1 e2 e2' e3; exact ⟨⟨s, k, a, b, A, n1, c, R⟩, rfl, g1, hs, wf_i64 hk, ha, hb2, g2, g3⟩
end
theorem spec_arg {H : Type} {enc : TypeId × Value → H} {W : World} {base : Nat} {v : Value} {d : DataW H} {ps : List MemPlace} (hval : Value.okWide Tryz.prog W .any base 33 v) (h : DataW.Trod enc Tryz.prog W 0 (fun _ => true) true 33 v d ps) (hb : ∀ p ∈ ps, p.block < W.heap.size) :
    ∃ o : SpO, v = .agg #[.slice o.A1 o.n1 o.c1, .slice o.A2 o.n2 o.c2, .slice o.A3 o.n3 o.c3, .slice o.A4 o.n4 o.c4] ∧ SpM W o ∧ SpF o := by
  obtain ⟨cs, rfl, hsz⟩ := okWide_struct Tryz.underlying33 hval; have c7 : Tryz.prog.cellsOf 33 = 4 := (by kernel_rfl); rw [c7] at hsz; obtain ⟨l⟩ := cs
  match l, hsz with
  | [v0, v1, v2, v3], _ =>
    obtain ⟨fuel, hf⟩ := h; obtain ⟨y0, y1, y2, y3, n, hx, _, h0, h1, h2, h3⟩ := trod_structA4 Tryz.underlying33 hf; have c1 : Tryz.prog.cellsOf 28 = 1 := (by kernel_rfl); have c2 : Tryz.prog.cellsOf 29 = 1 := (by kernel_rfl); have c3 : Tryz.prog.cellsOf 30 = 1 := (by kernel_rfl); have c4 : Tryz.prog.cellsOf 31 = 1 := (by kernel_rfl); simp only [Value.cells, c1, c2, c3, c4, List.drop_zero, List.drop_succ_cons, List.take_succ_cons, List.take_zero] at h0 h1 h2 h3; simp only [Prod.mk.injEq] at hx; obtain ⟨_, rfl⟩ := hx; obtain ⟨A1, n1, c1, R1, e1, a1, b1, f1⟩ := rows_trod (sz := 3) (fit := fun r : DvV => r.nm.size ≤ maxLen ∧ i64 r.lo ∧ i64 r.hi) (cells := DvV.cells) dv0 (fun _ => rfl) (by decide) Tryz.underlying28 (by kernel_rfl) (fun ht _ => sdiv_trod ht) h0 (fun p hp => hb p (by simp [hp])); obtain ⟨A2, n2, c2, R2, e2, a2, b2, f2⟩ := rows_trod (sz := 6) (fit := fun r : RnV => r.nm.size ≤ maxLen ∧ i64 r.kd ∧ i64 r.fn ∧ i64 r.fd ∧ i64 r.lo ∧ i64 r.ct) (cells := RnV.cells) rn0 (fun _ => rfl) (by decide) Tryz.underlying29 (by kernel_rfl) (fun ht _ => srank_trod ht) h1 (fun p hp => hb p (by simp [hp])); obtain ⟨A3, n3, c3, R3, e3, a3, b3, f3⟩ := rows_trod (sz := 5) (fit := fun r : SpV => RowG W r.A r.n 4 PrV.cells r.ps ∧ r.nm.size ≤ maxLen ∧ i64 r.dv ∧ i64 r.fn ∧ i64 r.fd ∧ (r.n ≤ r.c ∧ r.c ≤ maxLen) ∧ ∀ p ∈ r.ps, i64 p.rk ∧ i64 p.sh ∧ i64 p.lo ∧ i64 p.hi) (cells := SpV.cells) ⟨⟨#[]⟩, 0, 0, 0, none, 0, 0, []⟩ (fun _ => rfl) (by decide) Tryz.underlying30 (by kernel_rfl) (fun ht hp => sstop_trod ht hp) h2 (fun p hp => hb p (by simp [hp])); obtain ⟨A4, n4, c4, R4, e4, a4, b4, f4⟩ := rows_trod (sz := 6) (fit := fun r : CpV => r.nm.size ≤ maxLen ∧ i64 r.fr ∧ i64 r.tt ∧ i64 r.sh ∧ i64 r.on) (cells := CpV.cells) ⟨⟨#[]⟩, 0, 0, 0, 0, false⟩ (fun _ => rfl) (by decide) Tryz.underlying31 (by kernel_rfl) (fun ht _ => scoup_trod ht) h3 (fun p hp => hb p (by simp [hp])); subst e1 e2 e3 e4; exact ⟨⟨A1, n1, c1, R1, A2, n2, c2, R2, A3, n3, c3, R3, A4, n4, c4, R4⟩, rfl, ⟨a1, a2, a3, a4, fun x hx => (f3 x hx).1⟩, ⟨⟨b1, b2, b3, b4⟩, f1, f2, fun x hx => (f3 x hx).2, f4⟩⟩
end Go.Proofs.YtabkpbbjodfolaaGreatDoor
namespace Go.Proofs.YtabkpbbjodfolaaGreatDoor
def insL {α : Type} (L : List α) (p : Nat) (x : α) : List α := L.take p ++ x :: L.drop p
def delL {α : Type} (L : List α) (p : Nat) : List α := L.take p ++ L.drop (p + 1)
theorem insL_len {α : Type} {L : List α} {p : Nat} {x : α} (h : p ≤ L.length) : (insL L p x).length = L.length + 1 := by
  unfold insL; simp; omega
theorem delL_len {α : Type} {L : List α} {p : Nat} (h : p < L.length) : (delL L p).length = L.length - 1 := by
  unfold delL; simp; omega
theorem del_ins {α : Type} {L : List α} {p : Nat} {x : α} (h : p ≤ L.length) : delL (insL L p x) p = L := by
  unfold delL insL; have hl : (L.take p).length = p := (by rw [List.length_take]; omega); rw [List.take_append_of_le_length (by omega), List.take_of_length_le (by omega), show p + 1 = (L.take p).length + 1 by omega, List.drop_append]; have h1 : (L.take p).drop ((L.take p).length + 1) = [] := List.drop_eq_nil_of_le (by omega); rw [h1, List.nil_append, show (L.take p).length + 1 - (L.take p).length = 1 by omega]; exact List.take_append_drop p L
theorem ins_del {α : Type} {L : List α} {p : Nat} {x : α} (h : L[p]? = some x) : insL (delL L p) p x = L := by
  obtain ⟨hp, hx⟩ := List.getElem?_eq_some_iff.1 h; unfold delL insL; have hl : (L.take p).length = p := (by rw [List.length_take]; omega); rw [List.take_append_of_le_length (by omega), List.take_of_length_le (by omega)]
  have h2 : (L.take p ++ L.drop (p + 1)).drop p = L.drop (p + 1) := by
    have := List.drop_left (l₁ := L.take p) (l₂ := L.drop (p + 1))
    rwa [hl] at this
  rw [h2, ← hx, ← List.drop_eq_getElem_cons hp]; exact List.take_append_drop p L
theorem set_set {α : Type} {L : List α} {p : Nat} {x y : α} (h : L[p]? = some x) : (L.set p y).set p x = L := by
  obtain ⟨hp, hx⟩ := List.getElem?_eq_some_iff.1 h; rw [List.set_set, ← hx]; exact List.set_getElem_self hp
inductive Ed (α : Type) where
  | ins (p : Nat) (r : α)
  | rep (p : Nat) (r o : α)
  | del (p : Nat) (o : α)
def Ed.fw {α : Type} : Ed α → List α → List α
  | .ins p r, L => insL L p r
  | .rep p r _, L => L.set p r
  | .del p _, L => delL L p
def Ed.bw {α : Type} : Ed α → List α → List α
  | .ins p _, L => delL L p
  | .rep p _ o, L => L.set p o
  | .del p o, L => insL L p o
def Ed.ok {α : Type} : Ed α → List α → Prop
  | .ins p _, L => p ≤ L.length ∧ L.length < 500
  | .rep p _ o, L => L[p]? = some o
  | .del p o, L => L[p]? = some o
theorem Ed.bw_fw {α : Type} {e : Ed α} {L : List α} (h : e.ok L) : e.bw (e.fw L) = L := by
  cases e with
  | ins p r => exact del_ins h.1
  | rep p r o => exact set_set h
  | del p o => exact ins_del h
theorem Ed.fw_len {α : Type} {e : Ed α} {L : List α} (h : e.ok L) (hl : L.length ≤ 500) : (e.fw L).length ≤ 500 := by
  cases e with
  | ins p r => show (insL L p r).length ≤ 500; rw [insL_len h.1]; have := h.2; omega
  | rep p r o => show (L.set p r).length ≤ 500; rw [List.length_set]; exact hl
  | del p o =>
    show (delL L p).length ≤ 500; have h : L[p]? = some o := h; rw [delL_len (List.getElem?_eq_some_iff.1 h).1]; omega
def Ed.map {α β : Type} (f : α → β) : Ed α → Ed β
  | .ins p r => .ins p (f r)
  | .rep p r o => .rep p (f r) (f o)
  | .del p o => .del p (f o)
theorem Ed.fw_map {α β : Type} (f : α → β) (e : Ed α) (L : List α) : (e.map f).fw (L.map f) = (e.fw L).map f := by
  cases e with
  | ins p r => simp [Ed.map, Ed.fw, insL, List.map_take, List.map_drop]
  | rep p r o => simp [Ed.map, Ed.fw, List.map_set]
  | del p o => simp [Ed.map, Ed.fw, delL, List.map_take, List.map_drop]
theorem Ed.bw_map {α β : Type} (f : α → β) (e : Ed α) (L : List α) : (e.map f).bw (L.map f) = (e.bw L).map f := by
  cases e with
  | ins p r => simp [Ed.map, Ed.bw, delL, List.map_take, List.map_drop]
  | rep p r o => simp [Ed.map, Ed.bw, List.map_set]
  | del p o => simp [Ed.map, Ed.bw, insL, List.map_take, List.map_drop]
structure EdV (α : Type) where
  e : Ed α
  b : Nat
  a : Nat
def EdV.map {α β : Type} (f : α → β) (x : EdV α) : EdV β := ⟨x.e.map f, x.b, x.a⟩
structure SqV (α : Type) where
  L : List α
  p : Nat
  E : List (EdV α)
  d : Nat
def SqV.map {α β : Type} (f : α → β) (q : SqV α) : SqV β := ⟨q.L.map f, q.p, q.E.map (EdV.map f), q.d⟩
def SqV.emp (α : Type) : SqV α := ⟨[], 0, [], 0⟩
def trim {α : Type} (l : List α) : List α := if 100 < l.length then l.drop 1 else l
theorem trim_map {α β : Type} (f : α → β) (l : List α) : trim (l.map f) = (trim l).map f := by
  unfold trim; rw [List.length_map]
  split
  · rw [List.map_drop]
  · rfl
def SqV.does {α : Type} (q : SqV α) (e : Ed α) (p : Nat) : SqV α := ⟨e.fw q.L, p, trim (q.E.take q.d ++ [⟨e, q.p, 0⟩]), (trim (q.E.take q.d ++ [⟨e, q.p, 0⟩])).length⟩
def SqV.undo {α : Type} (q : SqV α) : SqV α := match q.E[q.d - 1]? with
  | none => q
  | some x => ⟨x.e.bw q.L, x.b, q.E.set (q.d - 1) ⟨x.e, x.b, q.p⟩, q.d - 1⟩
def SqV.redo {α : Type} (q : SqV α) : SqV α := match q.E[q.d]? with
  | none => q
  | some x => ⟨x.e.fw q.L, x.a, q.E, q.d + 1⟩
theorem SqV.undo_at {α : Type} {q : SqV α} {x : EdV α} (h : q.E[q.d - 1]? = some x) : q.undo = ⟨x.e.bw q.L, x.b, q.E.set (q.d - 1) ⟨x.e, x.b, q.p⟩, q.d - 1⟩ := by unfold SqV.undo; rw [h]
theorem SqV.redo_at {α : Type} {q : SqV α} {x : EdV α} (h : q.E[q.d]? = some x) : q.redo = ⟨x.e.fw q.L, x.a, q.E, q.d + 1⟩ := by unfold SqV.redo; rw [h]
theorem SqV.undo_map {α β : Type} (f : α → β) (q : SqV α) : q.undo.map f = (q.map f).undo := by
  have h : (q.map f).E[(q.map f).d - 1]? = (q.E[q.d - 1]?).map (EdV.map f) := (by simp [SqV.map])
  cases hx : q.E[q.d - 1]? with
  | none => rw [hx] at h; unfold SqV.undo; rw [hx]; simp only [Option.map_none] at h; rw [h]
  | some x =>
    rw [hx] at h; rw [SqV.undo_at hx, SqV.undo_at h]; simp only [SqV.map, EdV.map, Ed.bw_map, List.map_set]
theorem SqV.redo_map {α β : Type} (f : α → β) (q : SqV α) : q.redo.map f = (q.map f).redo := by
  have h : (q.map f).E[(q.map f).d]? = (q.E[q.d]?).map (EdV.map f) := (by simp [SqV.map])
  cases hx : q.E[q.d]? with
  | none => rw [hx] at h; unfold SqV.redo; rw [hx]; simp only [Option.map_none] at h; rw [h]
  | some x =>
    rw [hx] at h; rw [SqV.redo_at hx, SqV.redo_at h]; simp only [SqV.map, EdV.map, Ed.fw_map]
structure Chn {α : Type} (q : SqV α) (F : Nat → List α) : Prop where
  now : F q.d = q.L
  ok : ∀ i x, q.E[i]? = some x → x.e.ok (F i) ∧ F (i + 1) = x.e.fw (F i)
  len : ∀ i, i ≤ q.E.length → (F i).length ≤ 500
  b : ∀ i x, q.E[i]? = some x → x.b ≤ (F i).length
  a : ∀ i x, q.E[i]? = some x → q.d ≤ i → x.a ≤ (F (i + 1)).length
structure SqV.Ok {α : Type} (q : SqV α) : Prop where
  p : q.p ≤ q.L.length
  d : q.d ≤ q.E.length
  e : q.E.length ≤ 100
  chn : ∃ F, Chn q F
theorem SqV.Ok.len {α : Type} {q : SqV α} (h : q.Ok) : q.L.length ≤ 500 := by
  obtain ⟨F, hF⟩ := h.chn; rw [← hF.now]; exact hF.len _ h.d
theorem SqV.emp_ok (α : Type) : (SqV.emp α).Ok := ⟨Nat.le_refl _, Nat.le_refl _, Nat.zero_le _, fun _ => [], rfl, fun i x h => by simp [SqV.emp] at h, fun _ _ => Nat.zero_le _, fun i x h => by simp [SqV.emp] at h, fun i x h => by simp [SqV.emp] at h⟩
structure StV (α : Type) where
  L : List α
  p : Nat
structure RsV (α : Type) where
  L : List α
  p : Nat
  E : List (StV α × StV α)
  d : Nat
def RsV.edit {α : Type} (r : RsV α) (L : List α) (p : Nat) : RsV α := ⟨L, p, trim (r.E.take r.d ++ [(⟨r.L, r.p⟩, ⟨[], 0⟩)]), (trim (r.E.take r.d ++ [(⟨r.L, r.p⟩, ⟨[], 0⟩)])).length⟩
def RsV.undo {α : Type} (r : RsV α) : RsV α := match r.E[r.d - 1]? with
  | none => r
  | some x => ⟨x.1.L, x.1.p, r.E.set (r.d - 1) (x.1, ⟨r.L, r.p⟩), r.d - 1⟩
def RsV.redo {α : Type} (r : RsV α) : RsV α := match r.E[r.d]? with
  | none => r
  | some x => ⟨x.2.L, x.2.p, r.E, r.d + 1⟩
theorem RsV.undo_at {α : Type} {q : RsV α} {x : StV α × StV α} (h : q.E[q.d - 1]? = some x) : q.undo = ⟨x.1.L, x.1.p, q.E.set (q.d - 1) (x.1, ⟨q.L, q.p⟩), q.d - 1⟩ := by unfold RsV.undo; rw [h]
theorem RsV.redo_at {α : Type} {q : RsV α} {x : StV α × StV α} (h : q.E[q.d]? = some x) : q.redo = ⟨x.2.L, x.2.p, q.E, q.d + 1⟩ := by unfold RsV.redo; rw [h]
structure Sim {α : Type} (q : SqV α) (r : RsV α) : Prop where
  ok : q.p ≤ q.L.length ∧ q.d ≤ q.E.length ∧ q.E.length ≤ 100
  L : r.L = q.L
  p : r.p = q.p
  d : r.d = q.d
  n : r.E.length = q.E.length
  chn : ∃ F, Chn q F ∧ ∀ i x y, q.E[i]? = some x → r.E[i]? = some y → y.1 = ⟨F i, x.b⟩ ∧ (q.d ≤ i → y.2 = ⟨F (i + 1), x.a⟩)
theorem Sim.sq {α : Type} {q : SqV α} {r : RsV α} (h : Sim q r) : q.Ok := by
  obtain ⟨F, hF, _⟩ := h.chn; exact ⟨h.ok.1, h.ok.2.1, h.ok.2.2, F, hF⟩
theorem Sim.emp (α : Type) : Sim (SqV.emp α) ⟨[], 0, [], 0⟩ := by
  obtain ⟨F, hF⟩ := (SqV.emp_ok α).chn; exact ⟨⟨Nat.le_refl _, Nat.le_refl _, Nat.zero_le _⟩, rfl, rfl, rfl, rfl, F, hF, fun i x y h => by simp [SqV.emp] at h⟩
theorem Sim.pos {α : Type} {q : SqV α} {r : RsV α} (h : Sim q r) {p : Nat} (hp : p ≤ q.L.length) : Sim { q with p := p } { r with p := p } := by
  obtain ⟨F, hF, hE⟩ := h.chn; exact ⟨⟨hp, h.ok.2.1, h.ok.2.2⟩, h.L, rfl, h.d, h.n, F, ⟨hF.now, hF.ok, hF.len, hF.b, hF.a⟩, hE⟩
theorem take_get {α : Type} {l : List α} {d i : Nat} {x z : α} (hd : d ≤ l.length) (h : (l.take d ++ [z])[i]? = some x) : (i < d ∧ l[i]? = some x) ∨ (i = d ∧ x = z) := by
  have hl : (l.take d).length = d := (by rw [List.length_take]; omega); rcases Nat.lt_or_ge i d with h1 | h1
  · rw [List.getElem?_append_left (by omega), List.getElem?_take_of_lt h1] at h; exact .inl ⟨h1, h⟩
  · rw [List.getElem?_append_right (by omega), hl] at h; rcases Nat.lt_or_ge d i with h2 | h2
    · rw [List.getElem?_eq_none (by simp; omega)] at h; cases h
    · obtain rfl : i = d := (by omega); rw [Nat.sub_self] at h; exact .inr ⟨rfl, by injection h with h; exact h.symm⟩
theorem Sim.edit {α : Type} {q : SqV α} {r : RsV α} (h : Sim q r) {e : Ed α} (he : e.ok q.L) {p : Nat} (hp : p ≤ (e.fw q.L).length) : Sim (q.does e p) (r.edit (e.fw q.L) p) := by
  obtain ⟨F, hF, hE⟩ := h.chn; have h500 := h.sq.len; have hd := h.ok.2.1; have he100 := h.ok.2.2; have hrd : r.d ≤ r.E.length := (by rw [h.d, h.n]; exact hd); have hlq : (q.E.take q.d ++ [(⟨e, q.p, 0⟩ : EdV α)]).length = q.d + 1 := (by rw [List.length_append, List.length_take]; simp; omega); have hlr : (r.E.take r.d ++ [((⟨r.L, r.p⟩, ⟨[], 0⟩) : StV α × StV α)]).length = q.d + 1 := (by rw [List.length_append, List.length_take, ← h.d]; simp; omega); obtain ⟨G, hG⟩ : ∃ G : Nat → List α, G = fun i => if i ≤ q.d then F i else e.fw q.L := ⟨_, rfl⟩
  have hGl : ∀ i, i ≤ q.d → G i = F i := fun i hi => by rw [hG]; exact if_pos hi
  have hGd : G (q.d + 1) = e.fw q.L := (by rw [hG]; exact if_neg (by omega))
  -- the edits before they are cut to a hundred
  have hok : ∀ i x, (q.E.take q.d ++ [(⟨e, q.p, 0⟩ : EdV α)])[i]? = some x → (x.e.ok (G i) ∧ G (i + 1) = x.e.fw (G i)) ∧ x.b ≤ (G i).length ∧ i ≤ q.d := fun i x hx => by
    rcases take_get hd hx with ⟨h1, h2⟩ | ⟨h1, h2⟩
    · rw [hGl i (by omega), hGl (i + 1) (by omega)]; exact ⟨hF.ok i x h2, hF.b i x h2, by omega⟩
    · subst h1 h2; rw [hGl _ (Nat.le_refl _), hGd, hF.now]; exact ⟨⟨he, rfl⟩, h.ok.1, Nat.le_refl _⟩
  have hlen : ∀ i, i ≤ q.d + 1 → (G i).length ≤ 500 := fun i hi => by
    rcases Nat.lt_or_ge q.d i with h1 | h1
    · rw [show i = q.d + 1 by omega, hGd]; exact Ed.fw_len he h500
    · rw [hGl i h1]; exact hF.len i (by omega)
  have hst : ∀ (i : Nat) (x : EdV α) (y : StV α × StV α), (q.E.take q.d ++ [(⟨e, q.p, 0⟩ : EdV α)])[i]? = some x → (r.E.take r.d ++ [((⟨r.L, r.p⟩, ⟨[], 0⟩) : StV α × StV α)])[i]? = some y → y.1 = ⟨G i, x.b⟩ := fun i x y hx hy => by
    rcases take_get hd hx with ⟨h1, h2⟩ | ⟨h1, h2⟩
    · rcases take_get hrd hy with ⟨h3, h4⟩ | ⟨h3, h4⟩
      · rw [hGl i (by omega)]; exact (hE i x y h2 h4).1
      · rw [h.d] at h3; omega
    · rcases take_get hrd hy with ⟨h3, h4⟩ | ⟨h3, h4⟩
      · rw [h.d] at h3; omega
      · subst h2 h4 h1; rw [hGl _ (Nat.le_refl _), hF.now, h.L, h.p]
  unfold SqV.does RsV.edit
  by_cases ht : 100 < q.d + 1
  · have t1 : trim (q.E.take q.d ++ [(⟨e, q.p, 0⟩ : EdV α)]) = (q.E.take q.d ++ [(⟨e, q.p, 0⟩ : EdV α)]).drop 1 := (by unfold trim; rw [if_pos (by rw [hlq]; exact ht)]); have t2 : trim (r.E.take r.d ++ [((⟨r.L, r.p⟩, ⟨[], 0⟩) : StV α × StV α)]) = (r.E.take r.d ++ [((⟨r.L, r.p⟩, ⟨[], 0⟩) : StV α × StV α)]).drop 1 := (by unfold trim; rw [if_pos (by rw [hlr]; exact ht)]); rw [t1, t2]; have l1 : ((q.E.take q.d ++ [(⟨e, q.p, 0⟩ : EdV α)]).drop 1).length = q.d := (by rw [List.length_drop, hlq]; omega); have l2 : ((r.E.take r.d ++ [((⟨r.L, r.p⟩, ⟨[], 0⟩) : StV α × StV α)]).drop 1).length = q.d := (by rw [List.length_drop, hlr]; omega); refine ⟨⟨hp, Nat.le_refl _, by rw [l1]; omega⟩, rfl, rfl, by show _ = _; rw [l1, l2], by show _ = _; rw [l1, l2], fun i => G (i + 1), ⟨?_, ?_, ?_, ?_, ?_⟩, ?_⟩
    · show G (_ + 1) = _; rw [l1]; exact hGd
    · intro i x hx; have hx : ((q.E.take q.d ++ [(⟨e, q.p, 0⟩ : EdV α)]).drop 1)[i]? = some x := hx; rw [List.getElem?_drop, show 1 + i = i + 1 by omega] at hx; exact (hok (i + 1) x hx).1
    · intro i hi; have hi : i ≤ ((q.E.take q.d ++ [(⟨e, q.p, 0⟩ : EdV α)]).drop 1).length := hi; rw [l1] at hi; exact hlen (i + 1) (by omega)
    · intro i x hx; have hx : ((q.E.take q.d ++ [(⟨e, q.p, 0⟩ : EdV α)]).drop 1)[i]? = some x := hx; rw [List.getElem?_drop, show 1 + i = i + 1 by omega] at hx; exact (hok (i + 1) x hx).2.1
    · intro i x hx hi; have hx : ((q.E.take q.d ++ [(⟨e, q.p, 0⟩ : EdV α)]).drop 1)[i]? = some x := hx; have := (List.getElem?_eq_some_iff.1 hx).1; have hi : ((q.E.take q.d ++ [(⟨e, q.p, 0⟩ : EdV α)]).drop 1).length ≤ i := hi; omega
    · intro i x y hx hy; have hx : ((q.E.take q.d ++ [(⟨e, q.p, 0⟩ : EdV α)]).drop 1)[i]? = some x := hx; have hy : ((r.E.take r.d ++ [((⟨r.L, r.p⟩, ⟨[], 0⟩) : StV α × StV α)]).drop 1)[i]? = some y := hy; refine ⟨?_, fun hi => ?_⟩
      · rw [List.getElem?_drop, show 1 + i = i + 1 by omega] at hx hy; exact hst (i + 1) x y hx hy
      · have := (List.getElem?_eq_some_iff.1 hx).1; have hi : ((q.E.take q.d ++ [(⟨e, q.p, 0⟩ : EdV α)]).drop 1).length ≤ i := hi; omega
  · have t1 : trim (q.E.take q.d ++ [(⟨e, q.p, 0⟩ : EdV α)]) = q.E.take q.d ++ [(⟨e, q.p, 0⟩ : EdV α)] := (by unfold trim; rw [if_neg (by rw [hlq]; exact ht)]); have t2 : trim (r.E.take r.d ++ [((⟨r.L, r.p⟩, ⟨[], 0⟩) : StV α × StV α)]) = r.E.take r.d ++ [((⟨r.L, r.p⟩, ⟨[], 0⟩) : StV α × StV α)] := (by unfold trim; rw [if_neg (by rw [hlr]; exact ht)]); rw [t1, t2]; refine ⟨⟨hp, Nat.le_refl _, by show (q.E.take q.d ++ [(⟨e, q.p, 0⟩ : EdV α)]).length ≤ 100; rw [hlq]; omega⟩, rfl, rfl, by show _ = _; rw [hlq, hlr], by show _ = _; rw [hlq, hlr], G, ⟨?_, ?_, ?_, ?_, ?_⟩, ?_⟩
    · show G _ = _; rw [hlq]; exact hGd
    · exact fun i x hx => (hok i x hx).1
    · intro i hi; have hi : i ≤ (q.E.take q.d ++ [(⟨e, q.p, 0⟩ : EdV α)]).length := hi; rw [hlq] at hi; exact hlen i hi
    · exact fun i x hx => (hok i x hx).2.1
    · intro i x hx hi; have hi : (q.E.take q.d ++ [(⟨e, q.p, 0⟩ : EdV α)]).length ≤ i := hi; rw [hlq] at hi; have := (hok i x hx).2.2; omega
    · intro i x y hx hy; refine ⟨hst i x y hx hy, fun hi => ?_⟩; have hi : (q.E.take q.d ++ [(⟨e, q.p, 0⟩ : EdV α)]).length ≤ i := hi; rw [hlq] at hi; have := (hok i x hx).2.2; omega
theorem Sim.undo {α : Type} {q : SqV α} {r : RsV α} (h : Sim q r) (h0 : q.d ≠ 0) : Sim q.undo r.undo := by
  obtain ⟨F, hF, hE⟩ := h.chn; have hd := h.ok.2.1; have hi : q.d - 1 < q.E.length := (by omega); have hj : q.d - 1 < r.E.length := (by rw [h.n]; exact hi); have hx := List.getElem?_eq_getElem hi; have hy := List.getElem?_eq_getElem hj; generalize q.E[q.d - 1] = x at hx; generalize r.E[q.d - 1] = y at hy; rw [SqV.undo_at hx, RsV.undo_at (x := y) (by rw [h.d]; exact hy)]; obtain ⟨o1, o2⟩ := hF.ok _ _ hx; have e1 := (hE _ x y hx hy).1; rw [show q.d - 1 + 1 = q.d by omega, hF.now] at o2; have hb : x.e.bw q.L = F (q.d - 1) := (by rw [o2]; exact Ed.bw_fw o1); rw [hb, e1, h.d, h.L, h.p]
  have hget : ∀ i z, (q.E.set (q.d - 1) ⟨x.e, x.b, q.p⟩)[i]? = some z → (i = q.d - 1 ∧ z = ⟨x.e, x.b, q.p⟩) ∨ (i ≠ q.d - 1 ∧ q.E[i]? = some z) := fun i z hz => by
    by_cases hc : i = q.d - 1
    · subst hc; rw [List.getElem?_set_self hi] at hz; injection hz with hz
      exact .inl ⟨rfl, hz.symm⟩
    · rw [List.getElem?_set_ne (by omega)] at hz; exact .inr ⟨hc, hz⟩
  refine ⟨⟨hF.b _ _ hx, by rw [List.length_set]; show q.d - 1 ≤ _; omega, by rw [List.length_set]; exact h.ok.2.2⟩, rfl, rfl, rfl, by rw [List.length_set, List.length_set]; exact h.n, F, ⟨rfl, ?_, ?_, ?_, ?_⟩, ?_⟩
  · intro i z hz; rcases hget i z hz with ⟨rfl, rfl⟩ | ⟨_, hz⟩
    · exact ⟨o1, by rw [show q.d - 1 + 1 = q.d by omega, hF.now]; exact o2⟩
    · exact hF.ok i z hz
  · intro i hi; rw [List.length_set] at hi; exact hF.len i hi
  · intro i z hz; rcases hget i z hz with ⟨rfl, rfl⟩ | ⟨_, hz⟩
    · exact (hF.b _ x hx : x.b ≤ _)
    · exact hF.b i z hz
  · intro i z hz hdi; have hdi : q.d - 1 ≤ i := hdi; rcases hget i z hz with ⟨rfl, rfl⟩ | ⟨hne, hz⟩
    · rw [show q.d - 1 + 1 = q.d by omega, hF.now]; exact h.ok.1
    · exact hF.a i z hz (by omega)
  · intro i z u hz hu; rcases hget i z hz with ⟨rfl, rfl⟩ | ⟨hne, hz⟩
    · have hu : (r.E.set (q.d - 1) (⟨F (q.d - 1), x.b⟩, ⟨q.L, q.p⟩))[q.d - 1]? = some u := hu; rw [List.getElem?_set_self hj] at hu; injection hu with hu
      subst hu; exact ⟨rfl, fun _ => by rw [show q.d - 1 + 1 = q.d by omega, hF.now]⟩
    · have hu : (r.E.set (q.d - 1) (⟨F (q.d - 1), x.b⟩, ⟨q.L, q.p⟩))[i]? = some u := hu; rw [List.getElem?_set_ne (by omega)] at hu; obtain ⟨a1, a2⟩ := hE i z u hz hu; exact ⟨a1, fun hdi => a2 (by have hdi : q.d - 1 ≤ i := hdi; omega)⟩
theorem Sim.redo {α : Type} {q : SqV α} {r : RsV α} (h : Sim q r) (h0 : q.d ≠ q.E.length) : Sim q.redo r.redo := by
  obtain ⟨F, hF, hE⟩ := h.chn; have hd := h.ok.2.1; have hi : q.d < q.E.length := (by omega); have hj : q.d < r.E.length := (by rw [h.n]; exact hi); have hx := List.getElem?_eq_getElem hi; have hy := List.getElem?_eq_getElem hj; generalize q.E[q.d] = x at hx; generalize r.E[q.d] = y at hy; rw [SqV.redo_at hx, RsV.redo_at (x := y) (by rw [h.d]; exact hy)]; obtain ⟨o1, o2⟩ := hF.ok _ _ hx; have e2 := (hE _ x y hx hy).2 (Nat.le_refl _); rw [hF.now] at o2; rw [e2, ← o2, h.d]; refine ⟨⟨hF.a _ _ hx (Nat.le_refl _), by show q.d + 1 ≤ q.E.length; omega, h.ok.2.2⟩, rfl, rfl, rfl, h.n, F, ⟨rfl, hF.ok, hF.len, hF.b, fun i z hz hdi => hF.a i z hz (by have hdi : q.d + 1 ≤ i := hdi; omega)⟩, fun i z u hz hu => ⟨(hE i z u hz hu).1, fun hdi => (hE i z u hz hu).2 (by have hdi : q.d + 1 ≤ i := hdi; omega)⟩⟩
end Go.Proofs.YtabkpbbjodfolaaGreatDoor
