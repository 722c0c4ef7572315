/- What the rows of the laws of package mixtures need that ask for no table: their list of tables, a world for the witness, the last step. Parts began as the given page's toy and as the guide's post_of_below, which its page bids to copy. -/
import Derived.Test.YtbaojmfkjpnfhaaDoorCards
import Derived.Test.YtbaojmfkjpnfhaaDoorTie
import Derived.Test.YtbaojmfkjpnfhaaDoorBase
import Derived.ProofKit
import Derived.OpenShut
import Derived.Deep.DeepHandedRow
import Derived.Lib.LaidTab
import Derived.Stop.LaidErr
import Derived.ChangeSame
import Derived.ChangeSlices
import Derived.Carry
import Derived.Lay
import Derived.ChangeMaps5
import Derived.Test.YtbaojmfkjpnfhaaDoorMyH
import Derived.Deep.Slices
import Derived.Deep.Strs
import Derived.Test.YtbaojmfkjpnfhaaDoorCxA
import Derived.Test.YtbaojmfkjpnfhaaDoorCxG
import Derived.Test.YtbaojmfkjpnfhaaDoorHlb
import Derived.Test.YtbaojmfkjpnfhaaDoorShelB
import Derived.Shelf.Strings.BuilderK
import Derived.Test.YtbaojmfkjpnfhaaDoorSiH
namespace Go.Proofs.YtbaojmfkjpnfhaaDoor
set_option linter.unusedSimpArgs false
open Go.ChangeShapes Go.WideShapes Go.ChangeAt Go.RowKit
set_option linter.unusedVariables false
section
variable {H : Type} {enc : TypeId × Value → H} {P : Program}
theorem post_of_below {f : Func} {s : ChangeSpec} {apart fresh handsOn again : Bool} {W W' : World} {args : Array Value} {v : Value} {ds gs : List (DataW H)} {before pa pv : List MemPlace}
    (hW : DataW.Whole enc P f.params.toList s.vars apart W args.toList ds gs before)
    (hres : ∀ (b : Nat) (sp : Nat → Bool) (hd : Bool), DataW.TrodAll enc P W' b sp hd f.resultTypes.toList (v.resultList f.resultTypes.size) (s.fn H (ds ++ gs)).results [])
    (hargs : ∀ sp : Nat → Bool, (∀ p ∈ before, sp p.block = true) → DataW.TrodAll enc P W' 0 sp true f.params.toList args.toList (s.fn H (ds ++ gs)).args pa)
    (hvars : ∀ sp : Nat → Bool, (∀ p ∈ before, sp p.block = true) → DataW.TrodVars enc P W' sp s.vars (s.fn H (ds ++ gs)).vars pv)
    (hps : before = pa ++ pv) (hb : Below W.heap.size W W')
    (hok : ∀ (j : Nat) (t : TypeId) (r : Value), f.resultTypes[j]? = some t → (v.resultList f.resultTypes.size)[j]? = some r → Value.okWide P W' .any 0 t r) :
    s.post enc P f apart fresh handsOn again W args v W' := by
  have hlt : ∀ p ∈ before, p.block < W.heap.size := fun p hp => hW.lt p hp
  have hold : ∀ p ∈ before, (fun b => decide (b < W.heap.size)) p.block = true := fun p hp => by simpa using hlt p hp
  refine ⟨ds, gs, before, [], pa, pv, hW, hres _ _ _, hargs _ hold, hvars _ hold, World.keptBut_mono (fun p hp => ⟨hp, ?_⟩) (hb.frame (· ∈ before)), fun _ => ?_⟩
  · rw [hps, List.mem_append] at hp; exact Or.inr hp
  · obtain ⟨_, _, _, _, _, hz, hn⟩ := hW; refine ⟨hok, _, _, ([] ++ pa) ++ pv, ⟨[] ++ pa, pv, trodAll_append (hargs _ (fun _ _ => rfl)) (hres _ _ _), hvars _ (fun _ _ => rfl), rfl, ?_, ?_⟩, ?_⟩
    · intro b off hp; have hin : MemPlace.cell b off ∈ before := (by rw [hps]; simpa using hp); rw [hb.frozen (hlt _ hin)]; exact hz b off hin
    · intro ha; have := hn ha; rw [hps] at this; simpa using this
    · intro p hp _; rw [hps]; simpa using hp
end
theorem ownK : ownKnob Tryd.prog.godebug = none := by kernel_rfl
theorem laidO : laidOutB Tryd.prog = true := by kernel_rfl
def laidLM : List (String × DataW Unit) := [("math/bits.deBruijn32tab", Rows.laid_math_bits_deBruijn32tab), ("math/bits.deBruijn64tab", Rows.laid_math_bits_deBruijn64tab), ("internal/strconv.uint64pow10", Rows.laid_internal_strconv_uint64pow10)]
noncomputable def laidWorldM (os : Os) : World := World.laidAll Tryd.prog os laidLM
theorem laid_metM (os : Os) (args : Array Value) : laidMet Tryd.prog laidLM ((laidWorldM os).forCall (fun _ _ => 0) ⟨#[], args, []⟩).memory :=
  laidMet_laidAll args (by kernel_rfl) (by kernel_rfl)
theorem wf_i64 {z : Int} (h : (Lit.int .i64 z).wf = true) : -9223372036854775808 ≤ z ∧ z < 9223372036854775808 := by
  simp [Lit.wf, IntKind.min, IntKind.max, IntKind.signed, IntKind.bits] at h; omega
theorem stays {H : Type} {enc : TypeId × Value → H} {t : TypeId} (hr : Tryd.prog.readableRec t = true) (hrow : t < Tryd.prog.types.size) {W W' : World} {v : Value} {d : DataW H} {ps : List MemPlace} (h : DataW.Trod enc Tryd.prog W 0 (fun _ => true) true t v d ps) (hb : Below W.heap.size W W') (hlt : ∀ x ∈ ps, x.block < W.heap.size) (sp : Nat → Bool) (hsp : ∀ x ∈ ps, sp x.block = true) :
    DataW.Trod enc Tryd.prog W' 0 sp true t v d ps := WideElems.Trod_stays laidO hr hrow h (fun x hx => hb.same (hlt x hx)) (fun x hx => hsp x hx)
end Go.Proofs.YtbaojmfkjpnfhaaDoor
namespace Go.Proofs.YtbaojmfkjpnfhaaDoor
open Go.ChangeShapes Go.WideShapes Go.ChangeAt Go.RowKit Go.Deep
set_option linter.unusedVariables false
set_option linter.unusedSimpArgs false
end Go.Proofs.YtbaojmfkjpnfhaaDoor
namespace Go.Proofs.YtbaojmfkjpnfhaaDoor
open Go.ChangeShapes Go.WideShapes Go.ChangeAt Go.RowKit Go.Deep
set_option linter.unusedVariables false
set_option linter.unusedSimpArgs false
end Go.Proofs.YtbaojmfkjpnfhaaDoor
namespace Go.Proofs.YtbaojmfkjpnfhaaDoor
open Go.ChangeShapes Go.WideShapes Go.ChangeAt Go.RowKit Go.Deep
set_option linter.unusedVariables false
set_option linter.unusedSimpArgs false
end Go.Proofs.YtbaojmfkjpnfhaaDoor
namespace Go.Proofs.YtbaojmfkjpnfhaaDoor
set_option linter.unusedSimpArgs false
open Go.RowKit
set_option linter.unusedVariables false
theorem wp_of_runc {P : Program} {op : Oper} {a : Act} {w : World} {K : Act → World → Prop} {Q : Exit → Act → World → Prop} (v : Value) (w' : World) (h : (execOp a.eval op).run P w = .ok (.value v) w') (hk : K (a.put op.dst v) w') : op.wp P a w K Q := by
  unfold Oper.wp; rw [h, Oper.upon_value]; exact hk
def sv (s : ByteArray) : Value := .string s
def SS (w : World) (A : Option Addr) (n : Nat) (l : List ByteArray) : Prop := l.length = n ∧ Reads w w.heap.size 1 A n (l.map sv)
theorem SS.below {w w' : World} {A : Option Addr} {n : Nat} {l : List ByteArray} (h : SS w A n l) (hb : Below w.heap.size w w') : SS w' A n l := ⟨h.1, (h.2.below hb).more hb.size⟩
theorem SS.cell {w : World} {A : Option Addr} {n : Nat} {l : List ByteArray} (h : SS w A n l) {j : Nat} (hj : j < n) : ∃ ad, A = some ad ∧ ad.block < w.heap.size ∧ w.cell? (ad.add j) = some (.string (l[j]?.getD ⟨#[]⟩)) := by
  obtain ⟨ad, e, hb, hc⟩ := h.2.2 (by omega); have hl := h.1; refine ⟨ad, e, hb, hc _ _ ?_⟩; rw [List.getElem?_map, List.getElem?_eq_getElem (by omega)]; rfl
def OS (w : World) (base : Nat) (A : Option Addr) (n c : Nat) (l : List ByteArray) : Prop := w.ownsRow base 9 1 (.slice A n c) n (l.map sv)
section
variable {w w' : World} {base : Nat} {A : Option Addr} {n c : Nat} {l : List ByteArray}
theorem OS.len (h : OS w base A n c l) : l.length = n := by
  have := h.1; simpa using this
theorem OS.ss (h : OS w base A n c l) : SS w A n l := ⟨h.len, Reads.of_own h⟩
theorem OS.nil (w : World) (base : Nat) : OS w base none 0 0 [] := World.ownsRow_nil _ _ _ _
theorem OS.lt (h : OS w base A n c l) : ∀ k, (Value.slice A n c).ownBlock = some k → base ≤ k ∧ k < w.heap.size := World.ownsRow.lt h
theorem OS.alloc (h : OS w base A n c l) (o : Obj) : OS (w.alloc o) base A n c l := World.ownsRow.alloc h o
theorem OS.below (h : OS w base A n c l) (hb : Below w.heap.size w w') : OS w' base A n c l :=
  own_mv h (Mv.of_below hb) (fun k hk => by have := (World.ownsRow.lt h k hk).2; omega)
theorem OS.mv {g : Nat} (h : OS w base A n c l) (hm : Mv g w w') (hne : ∀ k, (Value.slice A n c).ownBlock = some k → k ≠ g) : OS w' base A n c l := own_mv h hm hne
theorem OS.mono {base' : Nat} (h : OS w base A n c l) (hb : base' ≤ base) : OS w base' A n c l :=
  ⟨h.1, h.2.imp id fun ⟨g, cap, cur, h1, h2, h3⟩ => ⟨g, cap, cur, h1, Nat.le_trans hb h2, h3⟩⟩
theorem OS.grown {row : Option Nat} (h : OS w base A n c l) (hg : w.grownBy w' row) (hne : ∀ k, (Value.slice A n c).ownBlock = some k → row ≠ some k) : OS w' base A n c l := by
  refine World.ownsRow.kept h hg ?_
  cases hb : (Value.slice A n c).ownBlock with
  | none => exact .inl rfl
  | some k => exact .inr (fun e => hne k hb e.symm)
theorem OS.cap (h : OS w base A n c l) : n ≤ c ∧ c ≤ maxLen := by
  rcases h.2 with ⟨h0, _⟩ | ⟨b, cap, cur, e1, _, _, h1, h2, _⟩
  · injection h0 with a b c
    subst b c; exact ⟨Nat.le_refl _, by decide⟩
  · injection e1 with a b c
    subst c; exact ⟨h1, h2⟩
theorem OS.ne_blk {g : Nat} {t : TypeId} {cs : Array Value} (h : OS w base A n c l) (hB : Blk w g t cs) (ht : 9 ≠ t) : (Value.slice A n c).ownBlock ≠ some g := own_blk_ne h hB ht
end
theorem SS.made (w : World) (s : ByteArray) (t : TypeId) : SS (w.alloc (.cells #[.string s] t)) (some ⟨w.heap.size, 0, none⟩) 1 [s] := by
  refine ⟨rfl, rfl, fun _ => ⟨⟨w.heap.size, 0, none⟩, rfl, by simp, fun j u hu => ?_⟩⟩
  have hj : j = 0 := by
    have := (List.getElem?_eq_some_iff.1 hu).1; simp at this; exact this
  subst hj; have : u = .string s := (by simpa [sv] using hu.symm); rw [this]; exact (Blk.new w t #[.string s]).cell 0
theorem infoS : ∃ i, Tryd.prog.info? 9 = some i ∧ i.zero = some (.string ⟨#[]⟩) ∧ i.size = 1 ∧ i.bytes = 16 := by
  have h : (Tryd.prog.info? 9).map (fun i => (i.zero, i.size, i.bytes)) = some (some (.string ⟨#[]⟩), 1, 16) := (by kernel_rfl); obtain ⟨i, hi, he⟩ := Option.map_eq_some_iff.1 h; injection he with e1 e2
  injection e2 with e2 e3
  exact ⟨i, hi, e1, e2, e3⟩
theorem wp_append_os {o : Oper} {a : Act} {w : World} {K : Act → World → Prop} {Q : Exit → Act → World → Prop} (s x : Operand)
    (ho : o.op = .call { callee := .builtin .append, args := #[s, x], argTypes := #[82, 82] })
    (base : Nat) (A : Option Addr) (n c : Nat) (l : List ByteArray) (hs : a.eval s = .slice A n c) (hown : OS w base A n c l)
    (B : Option Addr) (m d : Nat) (k : List ByteArray) (hx : a.eval x = .slice B m d) (hr : SS w B m k) (hnm : n + m ≤ 1000000) (hbase : base ≤ w.heap.size)
    (h : ∀ A' c' w', OS w' base A' (n + m) c' (l ++ k) → w.grownBy w' (Value.slice A n c).ownBlock → ((Value.slice A' (n + m) c').ownBlock = (Value.slice A n c).ownBlock ∨ (Value.slice A' (n + m) c').ownBlock = some w.heap.size) → K (a.put o.dst (.slice A' (n + m) c')) w') :
    o.wp Tryd.prog a w K Q := by
  obtain ⟨i, h1, h2, h3, h4⟩ := infoS; refine wp_append_any w s x _ ho base 9 i _ 1 16 Tryd.underlying82 h1 h2 h3 h4 rfl (by decide) _ n _ hs hown w.heap.size B m d (k.map sv) hx hr.2 (fun u hu => ?_) (by unfold maxLen; omega) (by omega) hbase (fun v' w' h5 h6 h7 => ?_)
  · obtain ⟨z, _, rfl⟩ := List.mem_map.1 hu; rfl
  · rw [← List.map_append] at h5; rcases h5.2 with ⟨rfl, h0⟩ | ⟨g, cap, cur, rfl, _⟩
    · have hn0 : n + m = 0 := h0; have e : Value.slice none 0 0 = Value.slice none (n + m) 0 := (by rw [hn0]); rw [e] at h5 h7 ⊢; exact h _ _ _ h5 h6 h7
    · exact h _ _ _ h5 h6 h7
theorem wpList_append_os {ops : Array Oper} {rest : List Oper} {o : Oper} {a : Act} {w : World} {Q : Exit → Act → World → Prop} (hgd : o.guard = none) (s x : Operand)
    (ho : o.op = .call { callee := .builtin .append, args := #[s, x], argTypes := #[82, 82] })
    (base : Nat) (A : Option Addr) (n c : Nat) (l : List ByteArray) (hs : a.eval s = .slice A n c) (hown : OS w base A n c l)
    (B : Option Addr) (m d : Nat) (k : List ByteArray) (hx : a.eval x = .slice B m d) (hr : SS w B m k) (hnm : n + m ≤ 1000000) (hbase : base ≤ w.heap.size)
    (h : ∀ A' c' w', OS w' base A' (n + m) c' (l ++ k) → w.grownBy w' (Value.slice A n c).ownBlock → ((Value.slice A' (n + m) c').ownBlock = (Value.slice A n c).ownBlock ∨ (Value.slice A' (n + m) c').ownBlock = some w.heap.size) → wpList Tryd.prog ops Q rest (a.put o.dst (.slice A' (n + m) c')) w') :
    wpList Tryd.prog ops Q (o :: rest) a w :=
  wpList_plain hgd fun _ hK => wp_append_os s x ho base A n c l hs hown B m d k hx hr hnm hbase fun A' c' w' h2 h3 h4 => hK _ _ (h A' c' w' h2 h3 h4)
theorem grown_trans {a b c : World} {row : Option Nat} (h : a.grownBy b row) (g : b.grownBy c row) : a.grownBy c row := by
  obtain ⟨h1, h2, h3, h4, h5⟩ := h; obtain ⟨g1, g2, g3, g4, g5⟩ := g; exact ⟨g1.trans h1, g2.trans h2, g3.trans h3, Nat.le_trans h4 g4, fun k hk hne => (g5 k (by omega) hne).trans (h5 k hk hne)⟩
def nmSt (o : SpO) (x : SpV) : ByteArray := x.nm ++ ⟨#[64]⟩ ++ (o.ds[x.dv.toNat]?.getD dv0).nm
def snm (o : SpO) : List ByteArray := o.ss.map (nmSt o)
def cnm (o : SpO) : List ByteArray := o.cs.map fun x => ⟨#[43]⟩ ++ x.nm
theorem nmdE_nm {l : Keys} {k nm : ByteArray} (h : nmdE l k nm = 0) : nmB nm = true := by
  unfold nmdE at h
  split at h
  · rename_i h1; exact h1
  · cases h
theorem divE_nm {l : Keys} {x : DvV} (h : divE l x = 0) : nmB x.nm = true := by
  unfold divE at h
  split at h
  · rename_i h1; exact nmdE_nm h1
  · rename_i h1; exact absurd h h1
theorem stpE_nm {nd : Nat} {l : Keys} {x : SpV} (h : stpE nd l x = 0) : nmB x.nm = true := by
  unfold stpE at h
  split at h
  · cases h
  · rename_i h1; simpa using h1
theorem cplE_nm {nd : Nat} {l : Keys} {x : CpV} (h : cplE nd l x = 0) : nmB x.nm = true := by
  unfold cplE at h
  split at h
  · rename_i h1; exact nmdE_nm h1
  · rename_i h1; exact absurd h h1
theorem specE_nm {o : SpO} (h : specE o = 0) : (∀ d ∈ o.ds, nmB d.nm = true) ∧ (∀ x ∈ o.ss, nmB x.nm = true ∧ 0 ≤ x.dv ∧ x.dv < (o.n1 : Int)) ∧ (∀ c ∈ o.cs, nmB c.nm = true) := by
  unfold specE at h
  split at h
  · cases h
  · simp only [] at h
    split at h
    · rename_i h1
      split at h
      · rename_i h2
        split at h
        · rename_i h3; refine ⟨fun d hd => ?_, fun x hx => ?_, fun c hc => ?_⟩
          · obtain ⟨l', h'⟩ := runE_all h1 d hd; exact divE_nm h'
          · obtain ⟨l', h'⟩ := runE_all h3 x hx; unfold stpsE at h'
            split at h'
            · rename_i h4; have := stpE_bd h4; exact ⟨stpE_nm h4, this.1⟩
            · rename_i h4; exact absurd h' h4
          · obtain ⟨l', h'⟩ := runE_all h c hc; exact cplE_nm h'
        · rename_i h3; exact absurd h h3
      · rename_i h2; exact absurd h h2
    · rename_i h1; exact absurd h h1
theorem alloc_coup (w : World) : (Instr.alloc 71 true (.tuple #[])).run Tryd.prog w = .ok (.pointer (some ⟨w.heap.size, 0, none⟩)) (w.alloc (.cells #[.string ⟨#[]⟩, .int .i64 0, .int .i64 0, .int .i64 0, .int .i64 0, .bool false] 71)) := by kernel_rfl
set_option maxHeartbeats 6400000 in
set_option maxRecDepth 100000 in
theorem names_any (o : SpO) (w : World) (hM : SpM w o) (hF : SpF o) (hs : specE o = 0) : Calls Tryd.prog 29 #[.agg #[.slice o.A1 o.n1 o.c1, .slice o.A2 o.n2 o.c2, .slice o.A3 o.n3 o.c3, .slice o.A4 o.n4 o.c4]] w fun e w' =>
      (∃ A cA B cB, e = .returned (.tuple #[.slice A o.n3 cA, .slice B o.n4 cB]) ∧ OS w' w.heap.size A o.n3 cA (snm o) ∧ OS w' w.heap.size B o.n4 cB (cnm o)) ∧ Below w.heap.size w w' := by
  have HM : Sl _ := ⟨hM⟩; have HF : Sl _ := ⟨hF⟩; have HNM : Sl _ := ⟨specE_nm hs⟩; have HBD : Sl _ := ⟨specE_bd hs⟩; have HD : Sl (Lg w w []) := ⟨Lg.nil w⟩; clear hM hF hs; go_enter Tryd.func29, Tryd.ntmps29
  go_upto_region 1 with ((with_reducible show wpList _ _ _ _ _ _); first
    | (refine wpList_box_new 1 rfl rfl 35 (.tmp 0) rfl #[.slice o.A1 o.n1 o.c1, .slice o.A2 o.n2 o.c2, .slice o.A3 o.n3 o.c3, .slice o.A4 o.n4 o.c4] rfl (fun _ => by kernel_rfl) ?_; rintro ws gs zg zm zs zb; replace HD : Sl _ := ⟨HD.out.new zg zm zb⟩; clear zg zm zs zb))
  have c2 := (HD.out.at_ 0 rfl).cell 2; simp at c2; have hn3 : (o.n3 : Int) ≤ 80 := (by have := HBD.out; omega); have hn4 : (o.n4 : Int) ≤ 24 := (by have := HBD.out; omega); go_wp2_with fail; clear c2
  go_loopw [2, 11] (fun s2 s11 wv => ∃ (k : Nat) (A : Option Addr) (cA : Nat), k ≤ o.n3 ∧ s2 = .slice A k cA ∧ s11 = .int .i64 k ∧ Sl (Lg w wv [(gs, 35, #[.slice o.A1 o.n1 o.c1, .slice o.A2 o.n2 o.c2, .slice o.A3 o.n3 o.c3, .slice o.A4 o.n4 o.c4])] ∧ OS wv w.heap.size A k cA ((snm o).take k))) (fun _ s11 _ => o.n3 - (RowKit.intOf s11).toNat)
  case atStart => exact ⟨0, none, 0, Nat.zero_le _, rfl, rfl, ⟨HD.out, OS.nil _ _⟩⟩
  case round =>
    clear HD; obtain ⟨k, A, cA, hk, rfl, rfl, HK⟩ := hrel; have HD : Sl _ := ⟨HK.out.1⟩; have HO : Sl _ := ⟨HK.out.2⟩; clear HK
    by_cases hkn : k < o.n3
    · have hkI : decide ((k : Int) < (o.n3 : Int)) = true := decide_eq_true (by omega); have hkI2 : (k : Int) < (o.n3 : Int) := (by omega); obtain ⟨gb, oo, x, hA3, hgb, hx, hra⟩ := (HM.out.s.below HD.out.bl).at_ (by omega) hkn; obtain ⟨hnm, hd0, hd1⟩ := HNM.out.2.1 x (List.mem_of_getElem? hx); obtain ⟨d, hd⟩ := Int.eq_ofNat_of_zero_le hd0; obtain ⟨gb2, oo2, y, hA1, hgb2, hy, hra2⟩ := HM.out.d.at_ (by omega) (i := d) (by omega); have hynm := HNM.out.1 y (List.mem_of_getElem? hy); have hs1 := (nmB_size hnm).2; have hs2 := (nmB_size hynm).2
      have htk : (snm o).take (k + 1) = (snm o).take k ++ [x.nm ++ ⟨#[64]⟩ ++ y.nm] := by
        unfold snm; rw [List.take_add_one, List.getElem?_map, hx]; simp only [Option.map_some, Option.toList_some, nmSt]; rw [hd, Int.toNat_natCast, hy, Option.getD_some]
      have HTK : Sl _ := ⟨htk⟩; have x0 := hra 0 _ rfl; have x1 := hra 1 _ rfl; have x2 := hra 2 _ rfl; have x3 := hra 3 _ rfl; have x4 := hra 4 _ rfl; rw [Nat.add_zero] at x0; rw [hd] at x1; have y0 := hra2 0 _ rfl; rw [Nat.add_zero] at y0; have HY0 : Sl (w.cell? ⟨gb2, oo2 + d * 3, none⟩ = some (.string y.nm) ∧ gb2 < w.heap.size) := ⟨y0, hgb2⟩; have hdn : d < o.n1 := (by omega); have HDN : Sl (d < o.n1) := ⟨hdn⟩; obtain ⟨ynm, hyn⟩ : ∃ ynm, y.nm = ynm := ⟨_, rfl⟩; rw [hyn] at hs2 HTK HY0; obtain ⟨nm, dv, fn, fd, XA, xn, xc, ps⟩ := x; simp only [] at x0 x1 x2 x3 x4 hs1 HTK; have HSZ : Sl (nm.size ≤ 16 ∧ ynm.size ≤ 16) := ⟨hs1, hs2⟩; rw [hA3]; have HA3 : Sl _ := ⟨hA3⟩; have HA1 : Sl _ := ⟨hA1⟩; clear hra hra2 hx hy hnm hynm htk hA3 hA1 y0 hyn hd hd0 hd1 hgb2 hdn hs1 hs2
      go_upto_region 4 with ((with_reducible show wpList _ _ _ _ _ _); first
        | (refine wpList_alloc_new 5 rfl rfl 69 rfl #[.string ⟨#[]⟩, .int .i64 0, .int .i64 0, .int .i64 0, .slice none 0 0] alloc_stop ?_; rintro wa gx zg zm zs zb; replace HO : Sl (OS _ _ _ _ _ _) := ⟨HO.out.below (below_mv (Below.refl _ _) zm (Nat.le_refl _) (Nat.le_refl _))⟩; replace HD : Sl _ := ⟨HD.out.new zg zm zb⟩; clear zg zm zs zb)
        | (refine wpList_store_whole rfl 69 (.tmp 5) (.tmp 14) rfl gx #[.string nm, .int .i64 (d : Int), .int .i64 fn, .int .i64 fd, .slice XA xn xc] rfl rfl 69 _ (HD.out.at_ 0 rfl) rfl (by kernel_rfl) (by simp [Value.oneCell']) ?_; rintro wb zm zs zb; replace HO : Sl (OS _ _ _ _ _ _) := ⟨HO.out.mv zm (fun k hk e => HO.out.ne_blk (HD.out.at_ 0 rfl) (by decide) (by rw [hk, e]))⟩; replace HD : Sl _ := ⟨HD.out.upd zm zb⟩; clear zm zs zb))
      clear x0 x1 x2 x3 x4; have hS0 : wb.grownBy wb.drew (Value.slice A k cA).ownBlock := grown_of_below (below_drewN (Below.refl _ _) 1)
      have HFR : Sl (∀ w' : World, wb.grownBy w' (Value.slice A k cA).ownBlock → (w'.cell? ⟨gx, 0, none⟩ = some (.string nm) ∧ w'.cell? ⟨gx, 1, none⟩ = some (.int .i64 (d : Int))) ∧ w'.cell? ⟨gs, 0, none⟩ = some (.slice (some ⟨gb2, oo2, none⟩) o.n1 o.c1) ∧ w'.cell? ⟨gb2, oo2 + d * 3, none⟩ = some (.string ynm)) := ⟨fun w' h => by
        have b1 := blk_grown (HD.out.at_ 0 rfl) h (fun e => HO.out.ne_blk (HD.out.at_ 0 rfl) (by decide) e); have b2 := blk_grown (HD.out.at_ 1 rfl) h (fun e => HO.out.ne_blk (HD.out.at_ 1 rfl) (by decide) e); refine ⟨⟨b1.cell 0, b1.cell 1⟩, (b2.cell 0).trans (by rw [← HA1.out]; rfl), ?_⟩; have e1 := HD.out.bl.cell (p := ⟨gb2, oo2 + d * 3, none⟩) HY0.out.2; rw [← HY0.out.1, ← e1]
        exact World.cell?_of_block (h.block gb2 (Nat.lt_of_lt_of_le HY0.out.2 HD.out.bl.size) (fun e2 => by have := (HO.out.lt gb2 e2.symm).1; have := HY0.out.2; omega))⟩
      have hs1 := HSZ.out.1; have hs2 := HSZ.out.2; have h64 : (⟨#[64]⟩ : ByteArray).size = 1 := rfl; have hdI1 : (0 : Int) ≤ (d : Int) := (by omega); have hdI2 : (d : Int) < (o.n1 : Int) := (by have := HDN.out; omega); have hdN := HDN.out; have hm := hS0; clear hS0; refine wp_region_held_drew (S := fun w' => wb.grownBy w' (Value.slice A k cA).ownBlock) (by kernel_rfl) hm (fun hHeld => ?_); clear hm; refine wpAnyH_pure 0 (v := .slice A k cA) rfl (by kernel_rfl) (by kernel_rfl) (by kernel_rfl) (fun _ _ _ h => h) rfl (fun _ => rfl) (by assumption) ?_; simp only [Act.put, sS0, sS1, sS2]; refine wpAnyH_pure 1 (v := .pointer (some ⟨gx, 0, none⟩)) rfl (by kernel_rfl) (by kernel_rfl) (by kernel_rfl) (fun _ _ _ h => h) rfl (fun _ => by go_simp) (by assumption) ?_; simp only [Act.put, sS0, sS1, sS2]
      refine wpAnyH_cell 2 (v := .string nm) rfl rfl (fun w' h => by
        have hc := (HFR.out w' h).1.1
        go_simp) (by kernel_rfl) (by kernel_rfl) (by kernel_rfl) (fun _ _ _ h => h) (by assumption) ?_
      simp only [Act.put, sS0, sS1, sS2]; refine wpAnyH_pure 3 (v := .string (nm ++ ⟨#[64]⟩)) rfl (by kernel_rfl) (by kernel_rfl) (by kernel_rfl) (fun _ _ _ h => h) rfl (fun _ => by go_simp; omega) (by assumption) ?_; simp only [Act.put, sS0, sS1, sS2]; refine wpAnyH_pure 4 (v := .pointer (some ⟨gs, 0, none⟩)) rfl (by kernel_rfl) (by kernel_rfl) (by kernel_rfl) (fun _ _ _ h => h) rfl (fun _ => by go_simp) (by assumption) ?_; simp only [Act.put, sS0, sS1, sS2]
      refine wpAnyH_cell 5 (v := .slice (some ⟨gb2, oo2, none⟩) o.n1 o.c1) rfl rfl (fun w' h => by
        have hc := (HFR.out w' h).2.1
        go_simp) (by kernel_rfl) (by kernel_rfl) (by kernel_rfl) (fun _ _ _ h => h) (by assumption) ?_
      simp only [Act.put, sS0, sS1, sS2]; refine wpAnyH_pure 6 (v := .pointer (some ⟨gx, 1, none⟩)) rfl (by kernel_rfl) (by kernel_rfl) (by kernel_rfl) (fun _ _ _ h => h) rfl (fun _ => by go_simp) (by assumption) ?_; simp only [Act.put, sS0, sS1, sS2]
      refine wpAnyH_cell 7 (v := .int .i64 (d : Int)) rfl rfl (fun w' h => by
        have hc := (HFR.out w' h).1.2
        go_simp) (by kernel_rfl) (by kernel_rfl) (by kernel_rfl) (fun _ _ _ h => h) (by assumption) ?_
      simp only [Act.put, sS0, sS1, sS2]; refine wpAnyH_pure 8 (v := .pointer (some ⟨gb2, oo2 + d * 3, none⟩)) rfl (by kernel_rfl) (by kernel_rfl) (by kernel_rfl) (fun _ _ _ h => h) rfl (fun _ => by go_simp) (by assumption) ?_; simp only [Act.put, sS0, sS1, sS2]; refine wpAnyH_pure 9 (v := .pointer (some ⟨gb2, oo2 + d * 3, none⟩)) rfl (by kernel_rfl) (by kernel_rfl) (by kernel_rfl) (fun _ _ _ h => h) rfl (fun _ => by go_simp) (by assumption) ?_; simp only [Act.put, sS0, sS1, sS2]
      refine wpAnyH_cell 10 (v := .string ynm) rfl rfl (fun w' h => by
        have hc := (HFR.out w' h).2.2
        go_simp) (by kernel_rfl) (by kernel_rfl) (by kernel_rfl) (fun _ _ _ h => h) (by assumption) ?_
      simp only [Act.put, sS0, sS1, sS2]; refine wpAnyH_pure 11 (v := .string (nm ++ ⟨#[64]⟩ ++ ynm)) rfl (by kernel_rfl) (by kernel_rfl) (by kernel_rfl) (fun _ _ _ h => h) rfl (fun _ => by go_simp; omega) (by assumption) ?_; simp only [Act.put, sS0, sS1, sS2]; refine wpAnyH_one 12 rfl (by kernel_rfl) rfl (fun K hK => ?_); refine wp_of_runc (.slice (some ⟨wb.heap.size, 0, none⟩) 1 1) (wb.drew.alloc (.cells #[.string (nm ++ ⟨#[64]⟩ ++ ynm)] 9)) (by kernel_rfl) ?_; have HGA : Sl (wb.grownBy (wb.drew.alloc (.cells #[.string (nm ++ ⟨#[64]⟩ ++ ynm)] 9)) (Value.slice A k cA).ownBlock) := ⟨grown_of_below ((show Below wb.heap.size wb wb.drew from below_drewN (Below.refl _ _) 1).alloc (by exact Nat.le_refl _) _)⟩; refine hK.out _ _ HGA.out (fun hHeld => ?_); clear hK K; simp only [Act.put, sS0, sS1, sS2]; refine wpAnyH_one 13 rfl (by kernel_rfl) rfl (fun K hK => ?_); have hOA : OS (wb.drew.alloc (.cells #[.string (nm ++ ⟨#[64]⟩ ++ ynm)] 9)) w.heap.size A k cA ((snm o).take k) := (show OS wb.drew _ _ _ _ _ from HO.out).alloc _; refine wp_append_os (.tmp 15) (.tmp 27) rfl w.heap.size A k cA ((snm o).take k) rfl hOA (some ⟨wb.drew.heap.size, 0, none⟩) 1 1 [nm ++ ⟨#[64]⟩ ++ ynm] rfl (SS.made wb.drew _ _) (by omega) (Nat.le_trans HD.out.bl.size (by simp)) ?_; rintro A2 c2 w6 zo zg zt; have HG6 : Sl (wb.grownBy w6 (Value.slice A k cA).ownBlock) := ⟨grown_trans HGA.out zg⟩; have HO6 : Sl _ := ⟨zo⟩; refine hK.out _ _ HG6.out (fun hHeld => ?_); clear hK K zo zg zt hOA; simp only [Act.put, sS0, sS1, sS2]; refine wpAnyH_pure 14 (v := .slice A2 (k + 1) c2) rfl (by kernel_rfl) (by kernel_rfl) (by kernel_rfl) (fun _ _ _ h => h) rfl (fun _ => rfl) (by assumption) ?_; simp only [Act.put, sS0, sS1, sS2]; refine wpAnyH_done (by kernel_rfl) ?_ _; clear hHeld hs1 hs2 h64 hdI1 hdI2 hdN
      have hD6 := ((HD.out.grown HG6.out (fun q hq => (HO.out.lt q hq).1) (fun q hq e => by
        simp only [List.mem_cons, List.not_mem_nil, or_false] at hq; rcases hq with rfl | rfl
        · exact HO.out.ne_blk (HD.out.at_ 0 rfl) (by decide) e
        · exact HO.out.ne_blk (HD.out.at_ 1 rfl) (by decide) e))).drop
      have HD6 : Sl _ := ⟨hD6⟩; clear hD6 HGA HFR; go_wp2_with fail; exact ⟨⟨k + 1, A2, c2, by omega, rfl, by go_num, ⟨by rw [← HA3.out]; exact HD6.out, by rw [HTK.out]; exact HO6.out⟩⟩, by simp [RowKit.intOf]; omega⟩
    · obtain rfl : k = o.n3 := (by omega); have hsl : (snm o).take o.n3 = snm o := List.take_of_length_le (by unfold snm; rw [List.length_map, HM.out.s.len]; exact Nat.le_refl _); rw [hsl] at HO; clear hsl; have c3 := (HD.out.at_ 0 rfl).cell 3; simp at c3; go_wp2_with fail; clear c3; have HLE : Sl (w.heap.size ≤ wr.heap.size) := ⟨HD.out.bl.size⟩
      rename World => wv
      have H3 : Sl (OS wv w.heap.size A o.n3 cA (snm o)) := ⟨HO.out⟩; clear HO
      go_loopw [3, 33] (fun s3 s33 wx => ∃ (j : Nat) (B : Option Addr) (cB : Nat), j ≤ o.n4 ∧ s3 = .slice B j cB ∧ s33 = .int .i64 j ∧ Sl (Lg w wx [(gs, 35, #[.slice o.A1 o.n1 o.c1, .slice o.A2 o.n2 o.c2, .slice o.A3 o.n3 o.c3, .slice o.A4 o.n4 o.c4])] ∧ OS wx wv.heap.size B j cB ((cnm o).take j) ∧ Below wv.heap.size wv wx)) (fun _ s33 _ => o.n4 - (RowKit.intOf s33).toNat)
      case atStart => exact ⟨0, none, 0, Nat.zero_le _, rfl, rfl, ⟨HD.out, OS.nil _ _, Below.refl _ _⟩⟩
      case round =>
        clear HD; obtain ⟨j, B, cB, hj, rfl, rfl, HK⟩ := hrel; have HD : Sl _ := ⟨HK.out.1⟩; have HO : Sl _ := ⟨HK.out.2.1⟩; have HW : Sl _ := ⟨HK.out.2.2⟩; clear HK
        by_cases hjn : j < o.n4
        · have hjI : decide ((j : Int) < (o.n4 : Int)) = true := decide_eq_true (by omega); have hjI2 : (j : Int) < (o.n4 : Int) := (by omega); obtain ⟨gb, oo, x, hA4, hgb, hx, hra⟩ := (HM.out.c.below HD.out.bl).at_ (by omega) hjn; have hnm := HNM.out.2.2 x (List.mem_of_getElem? hx); have hs1 := (nmB_size hnm).2
          have htk : (cnm o).take (j + 1) = (cnm o).take j ++ [⟨#[43]⟩ ++ x.nm] := by
            unfold cnm; rw [List.take_add_one, List.getElem?_map, hx]; rfl
          have HTK : Sl _ := ⟨htk⟩; have x0 := hra 0 _ rfl; have x1 := hra 1 _ rfl; have x2 := hra 2 _ rfl; have x3 := hra 3 _ rfl; have x4 := hra 4 _ rfl; have x5 := hra 5 _ rfl; rw [Nat.add_zero] at x0; obtain ⟨nm, fr, tt, sh, on, th⟩ := x; simp only [] at x0 x1 x2 x3 x4 x5 hs1 HTK; rw [hA4]; have HA4 : Sl _ := ⟨hA4⟩; clear hra hx hnm htk hA4; have h43 : (⟨#[43]⟩ : ByteArray).size = 1 := rfl
          go_wp2_with ((with_reducible show wpList _ _ _ _ _ _); first
            | (refine wpList_alloc_new 7 rfl rfl 71 rfl #[.string ⟨#[]⟩, .int .i64 0, .int .i64 0, .int .i64 0, .int .i64 0, .bool false] alloc_coup ?_; rintro wa gx zg zm zs zb; have HGX : Sl (wv.heap.size ≤ gx) := ⟨by rw [zg]; exact HW.out.size⟩; replace HO : Sl (OS _ _ _ _ _ _) := ⟨HO.out.below (below_mv (Below.refl _ _) zm (Nat.le_refl _) (Nat.le_refl _))⟩; replace HW : Sl _ := ⟨below_mv HW.out zm HW.out.size HW.out.size⟩; replace HD : Sl _ := ⟨HD.out.new zg zm zb⟩; clear zg zm zs zb)
            | (refine wpList_store_whole rfl 71 (.tmp 7) (.tmp 36) rfl gx #[.string nm, .int .i64 fr, .int .i64 tt, .int .i64 sh, .int .i64 on, .bool th] rfl rfl 71 _ (HD.out.at_ 0 rfl) rfl (by kernel_rfl) (by simp [Value.oneCell']) ?_; rintro wb zm zs zb; replace HO : Sl (OS _ _ _ _ _ _) := ⟨HO.out.mv zm (fun k hk e => HO.out.ne_blk (HD.out.at_ 0 rfl) (by decide) (by rw [hk, e]))⟩; replace HW : Sl _ := ⟨below_mv HW.out zm HGX.out HW.out.size⟩; replace HD : Sl _ := ⟨HD.out.upd zm zb⟩; have cc0 := zb.cell 0; simp at cc0; clear zm zs zb)
            | (at_builtin; go_loud (refine wpList_append_os rfl (.tmp 37) (.tmp 41) rfl wv.heap.size B j cB ((cnm o).take j) rfl (HO.out.alloc _) (some ⟨wb.heap.size, 0, none⟩) 1 1 [⟨#[43]⟩ ++ nm] rfl (SS.made _ _ _) (by omega) (Nat.le_trans HW.out.size (by simp)) ?_); rintro B2 c2 w2 zo zg zt; have HZ : Sl _ := ⟨And.intro zo zg⟩; clear zo zg zt))
          have hD2 := ((HD.out.below ((Below.refl _ _).alloc (Nat.le_refl _) (.cells #[.string (⟨#[43]⟩ ++ nm)] 9))).grown HZ.out.2 (fun q hq => Nat.le_trans HLE.out (HO.out.lt q hq).1) (fun q hq e => by
            simp only [List.mem_cons, List.not_mem_nil, or_false] at hq; rcases hq with rfl | rfl
            · exact HO.out.ne_blk (HD.out.at_ 0 rfl) (by decide) e
            · exact HO.out.ne_blk (HD.out.at_ 1 rfl) (by decide) e)).drop
          have HB2 : Sl (Below wv.heap.size wv w2) := ⟨below_grown (HW.out.alloc HW.out.size _) HZ.out.2 (Nat.le_trans HW.out.size (by simp)) (fun q hq => (HO.out.lt q hq).1)⟩; exact ⟨⟨j + 1, B2, c2, by omega, rfl, by go_num, ⟨by rw [← HA4.out]; exact hD2, by rw [HTK.out]; exact HZ.out.1, HB2.out⟩⟩, by simp [RowKit.intOf]; omega⟩
        · obtain rfl : j = o.n4 := (by omega); have hsl : (cnm o).take o.n4 = cnm o := List.take_of_length_le (by unfold cnm; rw [List.length_map, HM.out.c.len]; exact Nat.le_refl _); rw [hsl] at HO; clear hsl; go_wp2_with fail; go_ret2; exact ⟨⟨A, cA, B, cB, rfl, H3.out.below HW.out, HO.out.mono HLE.out⟩, HD.out.bl⟩
end Go.Proofs.YtbaojmfkjpnfhaaDoor
namespace Go.Proofs.YtbaojmfkjpnfhaaDoor
set_option linter.unusedSimpArgs false
open Go.RowKit
set_option linter.unusedVariables false
theorem lays166 : Go.Proofs.Lays.n166 Tryd.prog Tryd.lays156_ren := {
  mixed := Tryd.lays156.mixed
  f166 := Tryd.lays156.f166
  f240 := Tryd.lays156.f240
  f276 := Tryd.lays156.f276
  t0 := Tryd.lays156.t0
  a0 := Tryd.lays156.a0
  z0 := Tryd.lays156.z0
  v0 := Tryd.lays156.v0
  t3 := Tryd.lays156.t3
  a3 := Tryd.lays156.a3
  z3 := Tryd.lays156.z3
  v3 := Tryd.lays156.v3
  t4 := Tryd.lays156.t4
  a4 := Tryd.lays156.a4
  z4 := Tryd.lays156.z4
  v4 := Tryd.lays156.v4
  t9 := Tryd.lays156.t9
  a9 := Tryd.lays156.a9
  z9 := Tryd.lays156.z9
  v9 := Tryd.lays156.v9
  t20 := Tryd.lays156.t20
  a20 := Tryd.lays156.a20
  z20 := Tryd.lays156.z20
  v20 := Tryd.lays156.v20
  t37 := Tryd.lays156.t37
  a37 := Tryd.lays156.a37
  z37 := Tryd.lays156.z37
  v37 := Tryd.lays156.v37
  t70 := Tryd.lays156.t70
  a70 := Tryd.lays156.a70
  z70 := Tryd.lays156.z70
  v70 := Tryd.lays156.v70
  t72 := Tryd.lays156.t72
  a72 := Tryd.lays156.a72
  z72 := Tryd.lays156.z72
  v72 := Tryd.lays156.v72
  t75 := Tryd.lays156.t75
  a75 := Tryd.lays156.a75
  z75 := Tryd.lays156.z75
  v75 := Tryd.lays156.v75
  t164 := Tryd.lays156.t164
  a164 := Tryd.lays156.a164
  z164 := Tryd.lays156.z164
  v164 := Tryd.lays156.v164 }
theorem lays169 : Go.Proofs.Lays.n169 Tryd.prog Tryd.lays156_ren := {
  mixed := Tryd.lays156.mixed
  f169 := Tryd.lays156.f169
  t0 := Tryd.lays156.t0
  a0 := Tryd.lays156.a0
  z0 := Tryd.lays156.z0
  v0 := Tryd.lays156.v0
  t3 := Tryd.lays156.t3
  a3 := Tryd.lays156.a3
  z3 := Tryd.lays156.z3
  v3 := Tryd.lays156.v3
  t9 := Tryd.lays156.t9
  a9 := Tryd.lays156.a9
  z9 := Tryd.lays156.z9
  v9 := Tryd.lays156.v9
  t37 := Tryd.lays156.t37
  a37 := Tryd.lays156.a37
  z37 := Tryd.lays156.z37
  v37 := Tryd.lays156.v37
  t70 := Tryd.lays156.t70
  a70 := Tryd.lays156.a70
  z70 := Tryd.lays156.z70
  v70 := Tryd.lays156.v70
  t72 := Tryd.lays156.t72
  a72 := Tryd.lays156.a72
  z72 := Tryd.lays156.z72
  v72 := Tryd.lays156.v72
  t127 := Tryd.lays156.t127
  a127 := Tryd.lays156.a127
  z127 := Tryd.lays156.z127
  v127 := Tryd.lays156.v127 }
def BD (w : World) (b : Nat) (s : ByteArray) : Prop := Lib.IsBuilderF 88 5 b b (Lib.byteCells s.data.toList) w
theorem BD.at_ {w : World} {b : Nat} {s : ByteArray} (h : BD w b s) : ∃ p v, (p = .pointer none ∨ p = .pointer (some ⟨b, 0, none⟩)) ∧ Blk w b 88 #[p, v] ∧ w.ownsRowF b 5 1 v (Lib.byteCells s.data.toList).length (Lib.byteCells s.data.toList) ∧ v.ownBlock ≠ some b := by
  rcases h with ⟨_, v, h1, h2, h3⟩ | ⟨_, v, h1, h2, h3⟩
  · exact ⟨_, v, .inl rfl, h1, h2, h3⟩
  · exact ⟨_, v, .inr rfl, h1, h2, h3⟩
theorem BD.keep {w w' : World} {b : Nat} {s : ByteArray} (h : BD w b s) (hk : ∀ k c t fz, w.heap[k]? = some (.cells c t fz) → (k = b ∨ t = 5) → w'.heap[k]? = w.heap[k]?) : BD w' b s := by
  have key : ∀ p, Lib.BuilderAtF 88 5 b b p (Lib.byteCells s.data.toList) w → Lib.BuilderAtF 88 5 b b p (Lib.byteCells s.data.toList) w' := by
    rintro p ⟨h0, v, h1, h2, h3⟩; refine ⟨h0, v, (hk b _ _ _ h1 (.inl rfl)).trans h1, ⟨h2.1, ?_⟩, h3⟩; rcases h2.2 with e | ⟨g, cap, cur, fz, e1, hb, hh, hr⟩
    · exact .inl e
    · exact .inr ⟨g, cap, cur, fz, e1, hb, (hk g _ _ _ hh (.inr rfl)).trans hh, hr⟩
  exact h.imp (key _) (key _)
theorem BD.below {w w' : World} {b : Nat} {s : ByteArray} (h : BD w b s) (hb : Below w.heap.size w w') : BD w' b s :=
  h.keep fun k c t fz hc _ => hb.block k ((Array.getElem?_eq_some_iff.1 hc).1)
theorem BD.mv {w w' : World} {b g : Nat} {s : ByteArray} {t : TypeId} {cs : Array Value} (h : BD w b s) (hm : Mv g w w') (hB : Blk w g t cs) (ht : t ≠ 5) (hne : t ≠ 88) : BD w' b s :=
  h.keep fun k c u fz hc hu => hm.block k ((Array.getElem?_eq_some_iff.1 hc).1) (fun e => by
    subst e; rw [hB] at hc; injection hc with hc
    injection hc with _ e2 _
    rcases hu with rfl | rfl
    · obtain ⟨p, v, _, h1, _⟩ := h.at_; have h1 := Option.some.inj (hB.symm.trans h1); injection h1 with _ e3 _
      exact hne e3
    · exact ht e2)
theorem OS.blk {w : World} {base : Nat} {A : Option Addr} {n c : Nat} {l : List ByteArray} (h : OS w base A n c l) {k : Nat} (hk : (Value.slice A n c).ownBlock = some k) : ∃ cs, Blk w k 9 cs := by
  rcases h.2 with ⟨h0, _⟩ | ⟨b, cap, cur, e1, _, hh, _⟩
  · rw [h0] at hk; cases hk
  · rw [e1] at hk; injection hk with hk
    subst hk; exact ⟨cur, hh⟩
theorem BD.grown {w w' : World} {b base : Nat} {s : ByteArray} {A : Option Addr} {n c : Nat} {l : List ByteArray} (h : BD w b s) (ho : OS w base A n c l) (hg : w.grownBy w' (Value.slice A n c).ownBlock) : BD w' b s :=
  h.keep fun k cc u fz hc hu => hg.block k ((Array.getElem?_eq_some_iff.1 hc).1) (fun e => by
    obtain ⟨cs, hB⟩ := ho.blk e.symm; rw [hB] at hc; injection hc with hc
    injection hc with _ e2 _
    rcases hu with rfl | rfl
    · obtain ⟨p, v, _, h1, _⟩ := h.at_; have h1 := Option.some.inj (hB.symm.trans h1); injection h1 with _ e3 _
      exact absurd e3 (by decide)
    · exact absurd e2 (by decide))
theorem BD.new {w : World} {b : Nat} (h : Blk w b 88 #[.pointer none, .slice none 0 0]) : BD w b ⟨#[]⟩ :=
  .inl ⟨Nat.le_refl _, _, h, World.ownsRowF_nil _ _ _ _, by intro e; cases e⟩
theorem BD.lt {w : World} {b : Nat} {s : ByteArray} (h : BD w b s) : b < w.heap.size := by
  obtain ⟨p, v, _, h1, _⟩ := h.at_; exact Blk.lt h1
theorem blk_kept {w w' : World} {b g : Nat} {s : ByteArray} {t : TypeId} {cs : Array Value} (hB : Blk w g t cs) (h : BD w b s) (hk : Lib.OthersKept 5 (some b) w w') (ht : t ≠ 5) (hne : t ≠ 88) : Blk w' g t cs := by
  refine hk g _ hB (fun e => ?_) (fun c fz e => ?_)
  · injection e with e
    subst e; obtain ⟨p, v, _, h1, _⟩ := h.at_; have h1 := Option.some.inj (hB.symm.trans h1); injection h1 with _ e3 _
    exact hne e3
  · injection e with _ e2 _
    exact ht e2
theorem Lg.kept {w0 w w' : World} {b : Nat} {s : ByteArray} {l : List (Nat × TypeId × Array Value)} (h : Lg w0 w l) (hb : BD w b s) (hk : Lib.OthersKept 5 (some b) w w') (hbl : Below b w w') (hwb : w0.heap.size ≤ b) (ht : ∀ p ∈ l, p.2.1 ≠ 5 ∧ p.2.1 ≠ 88) : Lg w0 w' l :=
  ⟨⟨h.bl.trans (hbl.mono hwb), fun p hp => blk_kept (h.ld.all p hp) hb hk (ht p hp).1 (ht p hp).2, h.ld.ge⟩, h.nd⟩
theorem OS.kept {w w' : World} {b base : Nat} {s : ByteArray} {A : Option Addr} {n c : Nat} {l : List ByteArray} (h : OS w base A n c l) (hb : BD w b s) (hk : Lib.OthersKept 5 (some b) w w') : OS w' base A n c l := by
  refine ⟨h.1, ?_⟩; rcases h.2 with h0 | ⟨g, cap, cur, e1, h2, hh, hr⟩
  · exact .inl h0
  · exact .inr ⟨g, cap, cur, e1, h2, blk_kept hh hb hk (by decide) (by decide), hr⟩
theorem wstr_any (b : Nat) (s t : ByteArray) (w : World) (h : BD w b s) (hl : s.size + t.size ≤ 140737488355328) :
    Calls Tryd.prog 31 #[.pointer (some ⟨b, 0, none⟩), .string t] w fun e w' => (∃ v : Int, e = .returned (.tuple #[.int .i64 v, .nilIface])) ∧ BD w' b (s ++ t) ∧ Below b w w' ∧ Lib.OthersKept 5 (some b) w w' := by
  have hlen : (Lib.byteCells s.data.toList).length = s.size := (by rw [Lib.byteCells_length]; rfl); refine (Any.Builder_WriteString_k lays166 Tryd.Builder_Extra_156 b b _ t w h (by omega) (Nat.le_of_lt h.lt)).mono ?_; rintro e w' ⟨h1, h2, h3, h4⟩; refine ⟨⟨_, h1⟩, .inr ?_, h3, h4⟩
  have e : Lib.byteCells (s ++ t).data.toList = Lib.byteCells s.data.toList ++ Lib.strCells t := by
    unfold Lib.byteCells Lib.strCells; rw [ByteArray.data_append, Array.toList_append, List.map_append]
  rw [e]; exact h2
theorem bstr_any (b : Nat) (s : ByteArray) (w : World) (h : BD w b s) :
    Calls Tryd.prog 33 #[.pointer (some ⟨b, 0, none⟩)] w fun e w' => e = .returned (.string s) ∧ Below b w w' := by
  refine (Any.Builder_String_any_k lays169 Tryd.Builder_Extra_156 b b s.data.toList w h (Nat.le_of_lt h.lt)).mono ?_; rintro e w' ⟨h1, _, h3, _⟩; exact ⟨by rw [h1], h3⟩
def joinB (l : List ByteArray) : ByteArray := ⟨(Lib.join (l.map (·.data.toList)) [32]).toArray⟩
theorem OS.at_ {w : World} {base : Nat} {A : Option Addr} {n c : Nat} {l : List ByteArray} (h : OS w base A n c l) (hn : 0 < n) : ∃ g, A = some ⟨g, 0, none⟩ ∧ base ≤ g ∧ g < w.heap.size ∧ ∀ j, j < n → w.cell? ⟨g, j, none⟩ = some (.string (l[j]?.getD ⟨#[]⟩)) := by
  have hs := h.ss; have hlt := h.lt; rcases h.2 with ⟨h0, h1⟩ | ⟨g, cap, cur, e1, h2, hh, hr⟩
  · omega
  · injection e1 with e1 _ _
    subst e1; refine ⟨g, rfl, h2, Blk.lt (t := 9) (cs := cur) hh, fun j hj => ?_⟩; obtain ⟨ad, e, _, hc⟩ := hs.cell hj; injection e with e
    subst e; rw [show (⟨g, 0, none⟩ : Addr).add j = ⟨g, j, none⟩ by unfold Addr.add; split <;> simp_all] at hc; exact hc
theorem join_any (base : Nat) (A : Option Addr) (n c : Nat) (l : List ByteArray) (w : World) (h : OS w base A n c l) (hn : n ≤ 1000000) (hl : (joinB l).size ≤ 1000000000) :
    Calls Tryd.prog 32 #[.slice A n c, .string ⟨#[32]⟩] w fun e w' => e = .returned (.string (joinB l)) ∧ Below w.heap.size w w' := by
  have hlen := h.len; subst hlen; rcases Nat.eq_zero_or_pos l.length with h0 | h0
  · have : l = [] := List.length_eq_zero_iff.1 h0; subst this; refine (Tryd.strings_Join_none A c ⟨#[32]⟩ w).mono ?_; rintro e w' ⟨h3, h4⟩; exact ⟨h3, h4 ▸ Below.refl _ _⟩
  · obtain ⟨g, rfl, _, hb, hc⟩ := h.at_ h0; refine (Tryd.strings_Join g 0 c l ⟨#[32]⟩ w (fun j x hx => ?_) hb (by omega) h.cap.1 ?_).mono ?_
    · rw [Nat.zero_add, hc j (List.getElem?_eq_some_iff.1 hx).1, hx]; rfl
    · have : (joinB l).size = (Lib.join (l.map (·.data.toList)) [32]).length := rfl; have e : (⟨#[32]⟩ : ByteArray).data.toList = [32] := rfl; rw [e]; omega
    · rintro e w' ⟨h3, h4⟩; exact ⟨h3, h4⟩
end Go.Proofs.YtbaojmfkjpnfhaaDoor
namespace Go.Proofs.YtbaojmfkjpnfhaaDoor
set_option linter.unusedSimpArgs false
open Go.RowKit
set_option linter.unusedVariables false
def kFr : ByteArray := ⟨#[102, 114, 97, 109, 101]⟩
def kMo : ByteArray := ⟨#[109, 111, 114, 101]⟩
theorem joinTail_len {m : Nat} : ∀ r : List (List UInt8), (∀ x ∈ r, x.length ≤ m) → (Lib.joinTail [32] r).length ≤ r.length * (m + 1)
  | [], _ => by simp [Lib.joinTail]
  | x :: r, h => by
    have h1 := joinTail_len r (fun y hy => h y (List.mem_cons_of_mem _ hy)); have h2 := h x (List.mem_cons_self ..); unfold Lib.joinTail at h1 ⊢; rw [List.map_cons, List.flatten_cons, List.length_append, List.length_append, List.length_cons, List.length_cons, List.length_nil, Nat.add_mul]; omega
theorem joinB_size {m : Nat} (l : List ByteArray) (h : ∀ x ∈ l, x.size ≤ m) : (joinB l).size ≤ l.length * (m + 1) := by
  have e : (joinB l).size = (Lib.join (l.map (·.data.toList)) [32]).length := rfl; rw [e]
  cases l with
  | nil => simp [Lib.join, List.intercalate]
  | cons x r =>
    rw [List.map_cons, Lib.join_cons, List.length_append, List.length_cons, Nat.add_mul]
    have h1 := joinTail_len (m := m) (r.map (·.data.toList)) (fun y hy => by
      obtain ⟨z, hz, rfl⟩ := List.mem_map.1 hy
      exact h z (List.mem_cons_of_mem _ hz))
    have h2 : x.data.toList.length ≤ m := h x (List.mem_cons_self ..); rw [List.length_map] at h1; omega
def lineB (kw : ByteArray) (X : List ByteArray) : ByteArray := joinB (kw :: X.take 20) ++ ⟨#[10]⟩
theorem join_size33 {kw : ByteArray} {X : List ByteArray} (hk : kw.size ≤ 5) (hX : ∀ x ∈ X, x.size ≤ 33) : (joinB (kw :: X.take 20)).size ≤ 714 := by
  have h := joinB_size (m := 33) (kw :: X.take 20) (fun x hx => by
    rcases List.mem_cons.1 hx with rfl | hx
    · omega
    · exact hX x (List.mem_of_mem_take hx))
  have : (kw :: X.take 20).length ≤ 21 := (by rw [List.length_cons, List.length_take]; omega); have h2 : (kw :: X.take 20).length * (33 + 1) ≤ 21 * 34 := Nat.mul_le_mul this (Nat.le_refl _); omega
theorem lineB_size {kw : ByteArray} {X : List ByteArray} (hk : kw.size ≤ 5) (hX : ∀ x ∈ X, x.size ≤ 33) : (lineB kw X).size ≤ 1000 := by
  have := join_size33 hk hX; unfold lineB; rw [ByteArray.size_append]; have : (⟨#[10]⟩ : ByteArray).size = 1 := rfl; omega
def frmT : Nat → ByteArray → List ByteArray → ByteArray
  | 0, kw, X => lineB kw X
  | f + 1, kw, X => if 20 < X.length then lineB kw X ++ frmT f kMo (X.drop 20) else lineB kw X
theorem frmT_last {f : Nat} {kw : ByteArray} {X : List ByteArray} (h : X.length ≤ 20) : frmT f kw X = lineB kw X := by
  cases f with
  | zero => rfl
  | succ f => rw [frmT, if_neg (by omega)]
def frmN (o : SpO) (r : RgV) : List ByteArray := r.l.map (fun i => (snm o)[i.toNat]?.getD ⟨#[]⟩) ++ r.k.map (fun i => (cnm o)[i.toNat]?.getD ⟨#[]⟩)
def frmX (o : SpO) (r : RgV) : ByteArray := frmT 5 kFr (frmN o r)
def prtX (o : SpO) (L : List RgV) : ByteArray := L.foldl (fun s r => s ++ frmX o r) ⟨#[]⟩
theorem prtX_succ {o : SpO} {L : List RgV} {k : Nat} {x : RgV} (h : L[k]? = some x) : prtX o (L.take (k + 1)) = prtX o (L.take k) ++ frmX o x := by
  unfold prtX; rw [List.take_add_one, h, List.foldl_append]; rfl
def frmK (o : SpO) (L : List RgV) (i : Nat) : Int := regE o (L[i]?.getD rg0)
def printE (o : SpO) (L : List RgV) : Int := if specE o = 0 then (if 500 < L.length then 3 else fstE (frmK o L) L.length 0) else specE o
def printX (o : SpO) (L : List RgV) : ByteArray := if printE o L = 0 then prtX o L else ⟨#[]⟩
theorem nms_size {o : SpO} (h : specE o = 0) : (∀ x ∈ snm o, x.size ≤ 33) ∧ ∀ x ∈ cnm o, x.size ≤ 33 := by
  obtain ⟨h1, h2, h3⟩ := specE_nm h; refine ⟨fun x hx => ?_, fun x hx => ?_⟩
  · obtain ⟨y, hy, rfl⟩ := List.mem_map.1 hx; have e1 := (nmB_size (h2 y hy).1).2
    have e2 : (o.ds[y.dv.toNat]?.getD dv0).nm.size ≤ 16 := by
      cases hd : o.ds[y.dv.toNat]? with
      | none => exact Nat.zero_le _
      | some d => exact (nmB_size (h1 d (List.mem_of_getElem? hd))).2
    unfold nmSt; rw [ByteArray.size_append, ByteArray.size_append]; have : (⟨#[64]⟩ : ByteArray).size = 1 := rfl; omega
  · obtain ⟨y, hy, rfl⟩ := List.mem_map.1 hx; have e1 := (nmB_size (h3 y hy)).2; show (⟨#[43]⟩ ++ y.nm).size ≤ 33; rw [ByteArray.size_append]; have : (⟨#[43]⟩ : ByteArray).size = 1 := rfl; omega
theorem getD_size {l : List ByteArray} (h : ∀ x ∈ l, x.size ≤ 33) (i : Nat) : (l[i]?.getD ⟨#[]⟩).size ≤ 33 := by
  cases hd : l[i]? with
  | none => exact Nat.zero_le _
  | some d => exact h d (List.mem_of_getElem? hd)
theorem frmN_size {o : SpO} (h : specE o = 0) (r : RgV) : ∀ x ∈ frmN o r, x.size ≤ 33 := by
  obtain ⟨h1, h2⟩ := nms_size h; intro x hx; rcases List.mem_append.1 hx with hx | hx
  · obtain ⟨i, _, rfl⟩ := List.mem_map.1 hx; exact getD_size h1 _
  · obtain ⟨i, _, rfl⟩ := List.mem_map.1 hx; exact getD_size h2 _
def dropA (A : Option Addr) (i : Nat) : Option Addr := A.map fun ad => ⟨ad.block, ad.off + i, none⟩
theorem SS.take {w : World} {A : Option Addr} {n m : Nat} {l : List ByteArray} (h : SS w A n l) (hm : m ≤ n) : SS w A m (l.take m) := by
  have hl := h.1; refine ⟨by rw [List.length_take]; omega, by rw [List.length_map, List.length_take]; omega, fun h0 => ?_⟩; obtain ⟨ad, e, hb, hc⟩ := h.2.2 (by omega); refine ⟨ad, e, hb, fun j u hu => hc j u ?_⟩; rw [List.map_take] at hu
  have hj : j < m := by
    have := (List.getElem?_eq_some_iff.1 hu).1; rw [List.length_take] at this; omega
  rw [List.getElem?_take_of_lt hj] at hu; exact hu
theorem OS.drop {w : World} {base : Nat} {A : Option Addr} {n c i : Nat} {l : List ByteArray} (h : OS w base A n c l) (hi : i ≤ n) : SS w (dropA A i) (n - i) (l.drop i) := by
  have hl := h.len; refine ⟨by rw [List.length_drop]; omega, by rw [List.length_map, List.length_drop]; omega, fun h0 => ?_⟩; obtain ⟨g, rfl, _, hb, hc⟩ := h.at_ (by omega); refine ⟨_, rfl, hb, fun j u hu => ?_⟩; rw [List.getElem?_map] at hu
  have hj : i + j < n := by
    cases hx : (l.drop i)[j]? with
    | none => rw [hx] at hu; cases hu
    | some d =>
      have := (List.getElem?_eq_some_iff.1 hx).1; rw [List.length_drop] at this; omega
  rw [List.getElem?_drop] at hu; have := hc (i + j) hj; rw [show (⟨g, 0 + i, none⟩ : Addr).add j = ⟨g, i + j, none⟩ by unfold Addr.add; split <;> simp_all, this]; rw [List.getElem?_eq_getElem (by omega)] at hu ⊢; exact hu
theorem OS.made (w : World) {base : Nat} (s : ByteArray) (hb : base ≤ w.heap.size) : OS (w.alloc (.cells #[.string s] 9)) base (some ⟨w.heap.size, 0, none⟩) 1 1 [s] :=
  ⟨rfl, .inr ⟨w.heap.size, 1, #[.string s], rfl, hb, Blk.new w _ _, Nat.le_refl _, by decide, rfl, rfl⟩⟩
structure PrS (wb W : World) (l : List (Nat × TypeId × Array Value)) (s : ByteArray) : Prop where
  lg : Lg wb W l
  bd : BD W wb.heap.size s
section
variable {wb W W' : World} {l : List (Nat × TypeId × Array Value)} {s : ByteArray}
theorem PrS.bl (h : PrS wb W l s) : Below wb.heap.size wb W := h.lg.bl
theorem PrS.at_ (h : PrS wb W l s) (k : Nat) {g : Nat} {t : TypeId} {cs : Array Value} (hk : l[k]? = some (g, t, cs)) : Blk W g t cs := h.lg.at_ k hk
theorem PrS.below (h : PrS wb W l s) (hb : Below W.heap.size W W') : PrS wb W' l s := ⟨h.lg.below hb, h.bd.below hb⟩
theorem PrS.new {g : Nat} {t : TypeId} {cs : Array Value} (h : PrS wb W l s) (zg : g = W.heap.size) (zm : Mv W.heap.size W W') (zb : Blk W' g t cs) : PrS wb W' ((g, t, cs) :: l) s :=
  ⟨h.lg.new zg zm zb, h.bd.below (below_mv (Below.refl _ _) zm (Nat.le_refl _) (Nat.le_refl _))⟩
theorem PrS.upd {g : Nat} {t t' : TypeId} {cs cs' : Array Value} (h : PrS wb W ((g, t, cs) :: l) s) (hm : Mv g W W') (zb : Blk W' g t' cs') (ht : t ≠ 5 := by decide) (hn : t ≠ 88 := by decide) : PrS wb W' ((g, t', cs') :: l) s :=
  ⟨h.lg.upd hm zb, h.bd.mv hm (h.at_ 0 rfl) ht hn⟩
theorem PrS.drop {p : Nat × TypeId × Array Value} (h : PrS wb W (p :: l) s) : PrS wb W l s := ⟨h.lg.drop, h.bd⟩
theorem PrS.app {A : Option Addr} {n c : Nat} {X : List ByteArray} (h : PrS wb W l s) (ho : OS W wb.heap.size A n c X) (hg : W.grownBy W' (Value.slice A n c).ownBlock) (ht : ∀ p ∈ l, 9 ≠ p.2.1) : PrS wb W' l s :=
  ⟨h.lg.grown hg (fun q hq => (ho.lt q hq).1) (fun p hp e => ho.ne_blk (h.lg.ld.all p hp) (ht p hp) e), h.bd.grown ho hg⟩
theorem PrS.wr {t : ByteArray} (h : PrS wb W l s) (hb : BD W' wb.heap.size t) (hbl : Below wb.heap.size W W') (hk : Lib.OthersKept 5 (some wb.heap.size) W W') (ht : ∀ p ∈ l, p.2.1 ≠ 5 ∧ p.2.1 ≠ 88) : PrS wb W' l t :=
  ⟨h.lg.kept h.bd hk hbl (Nat.le_refl _) ht, hb⟩
end
theorem alloc_bld (w : World) : (Instr.alloc 88 true (.tuple #[])).run Tryd.prog w = .ok (.pointer (some ⟨w.heap.size, 0, none⟩)) (w.alloc (.cells #[.pointer none, .slice none 0 0] 88)) := by kernel_rfl
theorem PrS.start {w w' : World} (zm : Mv w.heap.size w w') (zb : Blk w' w.heap.size 88 #[.pointer none, .slice none 0 0]) : PrS w w' [] ⟨#[]⟩ :=
  ⟨(Lg.nil w).below (below_mv (Below.refl _ _) zm (Nat.le_refl _) (Nat.le_refl _)), BD.new zb⟩
end Go.Proofs.YtbaojmfkjpnfhaaDoor
namespace Go.Proofs.YtbaojmfkjpnfhaaDoor
set_option linter.unusedSimpArgs false
open Go.RowKit
set_option linter.unusedVariables false
theorem SS.take20 {w : World} {A : Option Addr} {n : Nat} {l : List ByteArray} (h : SS w A n l) : SS w A (min (n : Int) 20).toNat (l.take 20) := by
  have h2 := h.take (m := (min (n : Int) 20).toNat) (by omega); rcases Nat.le_total n 20 with h0 | h0
  · rw [List.take_of_length_le (by rw [h.1]; omega)] at h2; rw [List.take_of_length_le (by rw [h.1]; omega)]; exact h2
  · rwa [show (min (n : Int) 20).toNat = 20 by omega] at h2 ⊢
theorem OS.drop0 {w : World} {base : Nat} {A : Option Addr} {n c : Nat} {l : List ByteArray} (h : OS w base A n c l) : A = dropA A 0 := by
  rcases h.2 with ⟨h0, _⟩ | ⟨g, cap, cur, e1, _⟩
  · injection h0 with h0 _ _
    subst h0; rfl
  · injection e1 with e1 _ _
    subst e1; rfl
def lenOf : Value → Nat
  | .slice _ n _ => n
  | _ => 0
theorem ne_str_reg : 9 ≠ 39 := by decide
set_option maxHeartbeats 6400000 in
set_option maxRecDepth 100000 in
theorem crPrint_any (o : SpO) (T : Option Addr) (n c : Nat) (L : List RgV) (w : World) (hM : SpM w o) (hF : SpF o) (hT : TbM w T n c L) :
    Calls Tryd.prog 12 #[.agg #[.slice o.A1 o.n1 o.c1, .slice o.A2 o.n2 o.c2, .slice o.A3 o.n3 o.c3, .slice o.A4 o.n4 o.c4], .slice T n c] w fun e w' => e = .returned (.tuple #[.string (printX o L), .int .i64 (printE o L)]) ∧ Below w.heap.size w w' := by
  have HE : Sl (printE o L = if specE o = 0 then (if 500 < n then 3 else fstE (frmK o L) n 0) else specE o) := ⟨by rw [← hT.row.len]; rfl⟩; have HPX : Sl (printX o L = if printE o L = 0 then prtX o L else ⟨#[]⟩) := ⟨rfl⟩; obtain ⟨r, hr⟩ : ∃ r, printE o L = r := ⟨_, rfl⟩; rw [hr] at HE HPX ⊢; have HM : Sl _ := ⟨hM⟩; have HF : Sl _ := ⟨hF⟩; have HT : Sl _ := ⟨hT⟩; have HD : Sl (Lg w w []) := ⟨Lg.nil w⟩; have HSC : Sl _ := ⟨fun (W : World) (hW : Below w.heap.size w W) => speccheck_any o W (hM.below hW) hF⟩; obtain ⟨s, hs⟩ : ∃ s, specE o = s := ⟨_, rfl⟩; have HS0 : Sl _ := ⟨hs⟩; unfold SpecR at HSC; rw [hs] at HE HSC; have hcap := hT.cap; unfold maxLen at hcap; have HCAP : Sl _ := ⟨hcap⟩; clear hM hF hT hr hs hcap; go_enter Tryd.func12, Tryd.ntmps12
  go_upto_region 1 with ((with_reducible show wpList _ _ _ _ _ _); first
    | (refine wpList_box_new 2 rfl rfl 35 (.tmp 0) rfl #[.slice o.A1 o.n1 o.c1, .slice o.A2 o.n2 o.c2, .slice o.A3 o.n3 o.c3, .slice o.A4 o.n4 o.c4] rfl (fun _ => by kernel_rfl) ?_; rintro ws gs zg zm zs zb; replace HD : Sl _ := ⟨HD.out.new zg zm zb⟩; clear zg zm zs zb))
  have s0 := (HD.out.at_ 0 rfl).cell 0; have s1 := (HD.out.at_ 0 rfl).cell 1; have s2 := (HD.out.at_ 0 rfl).cell 2; have s3 := (HD.out.at_ 0 rfl).cell 3; simp at s0 s1 s2 s3; go_wp2_with fail; refine (HSC.out _ HD.out.bl).mono ?_; rintro e w1 ⟨⟨a1, a2, a3, rfl⟩, hb⟩; replace HD : Sl _ := ⟨HD.out.below hb⟩; clear HSC hb s0 s1 s2 s3
  go_upto_region 2 with ((with_reducible show wpList _ _ _ _ _ _); first
    | (refine wpList_alloc_new 6 rfl rfl 79 rfl #[.int .i64 0, .int .i64 0, .int .i64 0] alloc_fault ?_; rintro w2 gf zg zm zs zb; replace HD : Sl _ := ⟨HD.out.new zg zm zb⟩; clear zg zm zs zb)
    | (refine wpList_store_whole rfl 79 (.tmp 6) (.tmp 23) rfl gf #[.int .i64 a1, .int .i64 a2, .int .i64 a3] rfl rfl 79 _ (HD.out.at_ 0 rfl) rfl (by kernel_rfl) (by simp [Value.oneCell']) ?_; rintro w3 zm zs zb; replace HD : Sl _ := ⟨HD.out.upd zm zb⟩; clear zm zs zb))
  replace HD : Sl _ := ⟨HD.out.drop⟩
  by_cases hs0 : s = 0
  · subst hs0; rw [if_pos rfl] at HE
    by_cases h500 : 500 < n
    · have q1 : decide ((500 : Int) < (n : Int)) = true := decide_eq_true (by omega); have q2 : (500 : Int) < (n : Int) := (by omega); have HR : Sl (r = 3) := ⟨by rw [HE.out, if_pos h500]⟩; have HX : Sl (printX o L = ⟨#[]⟩) := ⟨by rw [HPX.out, if_neg (by rw [HR.out]; decide)]⟩; clear h500; go_wp2_with fail; go_ret2; exact ⟨by rw [HR.out, HX.out]; rfl, HD.out.bl⟩
    · have q1 : decide ((500 : Int) < (n : Int)) = false := decide_eq_false (by omega); have q2 : ¬ (500 : Int) < (n : Int) := (by omega); rw [if_neg h500] at HE; have HN5 : Sl (n ≤ 500) := ⟨by omega⟩; clear h500; have s0 := (HD.out.at_ 0 rfl).cell 0; have s1 := (HD.out.at_ 0 rfl).cell 1; have s2 := (HD.out.at_ 0 rfl).cell 2; have s3 := (HD.out.at_ 0 rfl).cell 3; simp at s0 s1 s2 s3; go_wp2_with fail; refine (names_any o _ (HM.out.below HD.out.bl) HF.out HS0.out).mono ?_; rintro e wb ⟨⟨A, cA, B, cB, rfl, z1, z2⟩, hb⟩; replace HD : Sl _ := ⟨HD.out.below hb⟩; have HN3 : Sl _ := ⟨z1⟩; have HN4 : Sl _ := ⟨z2⟩; clear hb s0 s1 s2 s3 q1 q2 z1 z2; go_wp2_with ((with_reducible show wpList _ _ _ _ _ _); (refine wpList_alloc_new 10 rfl rfl 88 rfl #[.pointer none, .slice none 0 0] alloc_bld ?_; rintro wv b zg zm zs zb; subst zg; have HS : Sl _ := ⟨HD.out⟩; have HP : Sl _ := ⟨PrS.start zm zb⟩; clear zm zs zb)); clear HD; have HPA : Sl (w.heap.size ≤ wb.heap.size) := ⟨HS.out.bl.size⟩; have HSZ : Sl _ := ⟨frmN_size HS0.out⟩; have HBD : Sl _ := ⟨specE_bd HS0.out⟩
      go_loopw [38] (fun s38 wr => ∃ (k : Nat) (s : ByteArray), k ≤ n ∧ s38 = .int .i64 k ∧ Sl (PrS wb wr [] s ∧ s = prtX o (L.take k) ∧ s.size ≤ 10000 * k) ∧ Sl (fstE (frmK o L) (n - k) k = r)) (fun s38 _ => n - (RowKit.intOf s38).toNat)
      case atStart => exact ⟨0, _, Nat.zero_le _, rfl, ⟨HP.out, rfl, Nat.zero_le _⟩, ⟨HE.out.symm⟩⟩
      case round =>
        clear HP HE; obtain ⟨k, s, hk, rfl, HK, HKE⟩ := hrel; have HD : Sl _ := ⟨HK.out.1⟩; have HTX : Sl _ := ⟨HK.out.2⟩; clear HK
        by_cases hkn : k < n
        · have hkI : decide ((k : Int) < (n : Int)) = true := decide_eq_true (by omega); have hkI2 : (k : Int) < (n : Int) := (by omega); have hk5 : (k : Int) ≤ 500 := (by have := HN5.out; omega); have hn5 : (n : Int) ≤ 500 := (by have := HN5.out; omega); have HST : Sl (r = if frmK o L k = 0 then fstE (frmK o L) (n - (k + 1)) (k + 1) else frmK o L k) := ⟨by rw [← HKE.out, show n - k = (n - (k + 1)) + 1 by omega]; rfl⟩; have HWW : Sl (∀ W, Below wb.heap.size wb W → Below w.heap.size w W) := ⟨fun W hW => HS.out.bl.trans (hW.mono HPA.out)⟩; obtain ⟨gb, oo, x, hA, hgb, hx, x0, x1⟩ := (HT.out.below (HWW.out _ HD.out.bl)).at_ hkn; have HFR : Sl (frmK o L k = regE o x) := ⟨by unfold frmK; rw [hx]; rfl⟩; have HXN : Sl (prtX o (L.take (k + 1)) = s ++ frmX o x) := ⟨by rw [prtX_succ hx, ← HTX.out.1]⟩; have HXM : Sl _ := ⟨HT.out.all x (List.mem_of_getElem? hx)⟩; have HRG : Sl _ := ⟨fun (W : World) (hW : Below w.heap.size w W) => registration_any o x W ((HT.out.all x (List.mem_of_getElem? hx)).below hW) HF.out⟩; obtain ⟨e1, he1⟩ : ∃ e1, regE o x = e1 := ⟨_, rfl⟩; have HE1 : Sl _ := ⟨he1⟩; rw [he1] at HFR HRG; rw [hA]; have HA : Sl _ := ⟨hA⟩; clear hA hx he1 HKE
          go_upto_region 11 with ((with_reducible show wpList _ _ _ _ _ _); first
            | (refine wpList_alloc_new 12 rfl rfl 39 rfl #[.slice none 0 0, .slice none 0 0] alloc_reg ?_; rintro w4 gx zg zm zs zb; replace HD : Sl _ := ⟨HD.out.new zg zm zb⟩; clear zg zm zs zb)
            | (refine wpList_store_whole rfl 39 (.tmp 12) (.tmp 41) rfl gx #[.slice x.A x.n x.c, .slice x.B x.m x.d] rfl rfl 39 _ (HD.out.at_ 0 rfl) rfl (by kernel_rfl) (by simp [Value.oneCell']) ?_; rintro w5 zm zs zb; replace HD : Sl _ := ⟨HD.out.upd zm zb⟩; clear zm zs zb))
          have HS2 : Sl _ := ⟨HS.out.below HD.out.bl⟩; have s0 := (HS2.out.at_ 0 rfl).cell 0; have s1 := (HS2.out.at_ 0 rfl).cell 1; have s2 := (HS2.out.at_ 0 rfl).cell 2; have s3 := (HS2.out.at_ 0 rfl).cell 3; have y0 := (HD.out.at_ 0 rfl).cell 0; have y1 := (HD.out.at_ 0 rfl).cell 1; simp at s0 s1 s2 s3 y0 y1; clear x0 x1; go_wp2_with fail; refine (HRG.out _ (HWW.out _ HD.out.bl)).mono ?_; rintro e w6 ⟨rfl, hb⟩; replace HD : Sl _ := ⟨HD.out.below hb⟩; clear HRG hb s0 s1 s2 s3 y0 y1 HS2
          by_cases he0 : e1 = 0
          · subst he0; have HFN : Sl (fstE (frmK o L) (n - (k + 1)) (k + 1) = r) := ⟨by rw [HST.out, if_pos HFR.out]⟩; have hr1 := regE_ok HE1.out; have HR1 : Sl _ := ⟨hr1.1⟩; have HR2 : Sl _ := ⟨hr1.2⟩
            have HLN : Sl (x.n ≤ 80 ∧ x.m ≤ 24) := ⟨by
              have l1 := drwE_len hr1.1; have l2 := drwE_len hr1.2; have := HXM.out.s.1; have := HXM.out.c.1; have := HBD.out
              omega⟩
            have y0 := (HD.out.at_ 0 rfl).cell 0; simp at y0; clear HST hr1 HFR HE1; have HXL : Sl (x.l.length = x.n ∧ x.k.length = x.m) := ⟨HXM.out.s.1, HXM.out.c.1⟩; go_wp2_with fail; clear y0; obtain ⟨XC, hXC⟩ : ∃ XC, (#[.slice x.A x.n x.c, .slice x.B x.m x.d] : Array Value) = XC := ⟨_, rfl⟩; have HXC : Sl _ := ⟨hXC⟩; rw [hXC] at HD; clear hXC; obtain ⟨FL, hFL⟩ : ∃ FL, x.l.map (fun i => (snm o)[i.toNat]?.getD ⟨#[]⟩) = FL := ⟨_, rfl⟩; have HFL : Sl _ := ⟨hFL⟩; have HFLN : Sl (FL.length = x.n) := ⟨by rw [← hFL, List.length_map]; exact HXL.out.1⟩; clear hFL
            go_loopw [14, 51] (fun s14 s51 wr => ∃ (j : Nat) (A' : Option Addr) (c' : Nat), j ≤ x.n ∧ s14 = .slice A' j c' ∧ s51 = .int .i64 j ∧ Sl (PrS wb wr [(gx, 39, XC)] s ∧ OS wr wb.heap.size A' j c' (FL.take j))) (fun _ s51 _ => x.n - (RowKit.intOf s51).toNat)
            case atStart => exact ⟨0, _, _, Nat.zero_le _, rfl, rfl, ⟨HD.out, OS.nil _ _⟩⟩
            case round =>
              clear HD ; obtain ⟨j, A1, c1, hj, rfl, rfl, HK⟩ := hrel; have HD : Sl _ := ⟨HK.out.1⟩; have HO : Sl _ := ⟨HK.out.2⟩; clear HK; have hxb : (x.n : Int) ≤ 80 := (by have := HLN.out; omega)
              by_cases hjn : j < x.n
              · have hjI : decide ((j : Int) < (x.n : Int)) = true := decide_eq_true (by omega); have hjI2 : (j : Int) < (x.n : Int) := (by omega); obtain ⟨ad, hA2, hab, k1⟩ := (HXM.out.s.below (HWW.out _ HD.out.bl)).cell (j := j) hjn; have hz := (drwE_ok HR1.out (k := j) (by rw [HXL.out.1]; exact hjn)).1
                have HTK : Sl (FL.take (j + 1) = FL.take j ++ [(snm o)[(gt x.l j).toNat]?.getD ⟨#[]⟩]) := ⟨by
                  rw [List.take_add_one, ← HFL.out, List.getElem?_map, List.getElem?_eq_getElem (by rw [HXL.out.1]; exact hjn)]; rw [show gt x.l j = x.l[j]'(by rw [HXL.out.1]; exact hjn) by rw [gt, List.getElem?_eq_getElem (by rw [HXL.out.1]; exact hjn)]; rfl]
                  rfl⟩
                obtain ⟨z, hzz⟩ : ∃ z, gt x.l j = z := ⟨_, rfl⟩; rw [hzz] at hz HTK k1; clear hzz; obtain ⟨zn, rfl⟩ := Int.eq_ofNat_of_zero_le hz.1; have hzI0 : (0 : Int) ≤ (zn : Int) := hz.1; have hzI : (zn : Int) < (o.n3 : Int) := hz.2; rw [Int.toNat_natCast] at HTK; obtain ⟨g3, hA3, _, hg3, hc3⟩ := (HN3.out.below HD.out.bl).at_ (show 0 < o.n3 by omega); have k3 := hc3 zn (by omega); obtain ⟨nm, hnm⟩ : ∃ nm, (snm o)[zn]?.getD ⟨#[]⟩ = nm := ⟨_, rfl⟩; rw [hnm] at k3 HTK; rw [hA2, hA3]; clear hA2 hA3 hz hc3 hnm; have HLJ : Sl (j + 1 ≤ 1000000) := ⟨by have := HLN.out; omega⟩; go_wp2_with (at_builtin; go_loud (refine wpList_append_os rfl (.tmp 55) (.tmp 60) rfl wb.heap.size A1 j c1 (FL.take j) rfl (HO.out.alloc _) (some ⟨wr.heap.size, 0, none⟩) 1 1 [nm] rfl (SS.made _ _ _) HLJ.out (Nat.le_trans HD.out.bl.size (by simp)) ?_); rintro A2' c2' w2 zo zg zt; have HZ : Sl _ := ⟨And.intro zo zg⟩; clear zo zg zt); have hD2 : PrS wb w2 [(gx, 39, XC)] s := (HD.out.below ((Below.refl _ _).alloc (Nat.le_refl _) _)).app (HO.out.alloc _) HZ.out.2 (by intro q hq; simp only [List.mem_cons, List.not_mem_nil, or_false] at hq; subst hq; exact ne_str_reg); exact ⟨⟨j + 1, A2', c2', by omega, rfl, by go_num, ⟨hD2, by rw [HTK.out]; exact HZ.out.1⟩⟩, by simp [RowKit.intOf]; omega⟩
              · obtain rfl : j = x.n := (by omega); rw [show FL.take x.n = FL from List.take_of_length_le (Nat.le_of_eq HFLN.out)] at HO; clear hj hjn; have y1 := (HD.out.at_ 0 rfl).cell 1; rw [← HXC.out] at y1; simp at y1; go_wp2_with fail; clear y1; obtain ⟨FK, hFK⟩ : ∃ FK, x.k.map (fun i => (cnm o)[i.toNat]?.getD ⟨#[]⟩) = FK := ⟨_, rfl⟩; have HFK : Sl _ := ⟨hFK⟩; have HFKN : Sl (FK.length = x.m) := ⟨by rw [← hFK, List.length_map]; exact HXL.out.2⟩; clear hFK
                go_loopw [14, 66] (fun s14 s66 wr => ∃ (j : Nat) (A' : Option Addr) (c' : Nat), j ≤ x.m ∧ s14 = .slice A' (x.n + j) c' ∧ s66 = .int .i64 j ∧ Sl (PrS wb wr [(gx, 39, XC)] s ∧ OS wr wb.heap.size A' (x.n + j) c' (FL ++ FK.take j))) (fun _ s66 _ => x.m - (RowKit.intOf s66).toNat)
                case atStart => exact ⟨0, _, _, Nat.zero_le _, rfl, rfl, ⟨HD.out, by rw [List.take_zero, List.append_nil]; exact HO.out⟩⟩
                case round =>
                  clear HD HO; obtain ⟨j, A2, c2, hj, rfl, rfl, HK⟩ := hrel; have HD : Sl _ := ⟨HK.out.1⟩; have HO : Sl _ := ⟨HK.out.2⟩; clear HK; have hxb : (x.m : Int) ≤ 80 := (by have := HLN.out; omega)
                  by_cases hjn : j < x.m
                  · have hjI : decide ((j : Int) < (x.m : Int)) = true := decide_eq_true (by omega); have hjI2 : (j : Int) < (x.m : Int) := (by omega); obtain ⟨ad, hA2, hab, k1⟩ := (HXM.out.c.below (HWW.out _ HD.out.bl)).cell (j := j) hjn; have hz := (drwE_ok HR2.out (k := j) (by rw [HXL.out.2]; exact hjn)).1
                    have HTK : Sl (FK.take (j + 1) = FK.take j ++ [(cnm o)[(gt x.k j).toNat]?.getD ⟨#[]⟩]) := ⟨by
                      rw [List.take_add_one, ← HFK.out, List.getElem?_map, List.getElem?_eq_getElem (by rw [HXL.out.2]; exact hjn)]; rw [show gt x.k j = x.k[j]'(by rw [HXL.out.2]; exact hjn) by rw [gt, List.getElem?_eq_getElem (by rw [HXL.out.2]; exact hjn)]; rfl]
                      rfl⟩
                    obtain ⟨z, hzz⟩ : ∃ z, gt x.k j = z := ⟨_, rfl⟩; rw [hzz] at hz HTK k1; clear hzz; obtain ⟨zn, rfl⟩ := Int.eq_ofNat_of_zero_le hz.1; have hzI0 : (0 : Int) ≤ (zn : Int) := hz.1; have hzI : (zn : Int) < (o.n4 : Int) := hz.2; rw [Int.toNat_natCast] at HTK; obtain ⟨g3, hA3, _, hg3, hc3⟩ := (HN4.out.below HD.out.bl).at_ (show 0 < o.n4 by omega); have k3 := hc3 zn (by omega); obtain ⟨nm, hnm⟩ : ∃ nm, (cnm o)[zn]?.getD ⟨#[]⟩ = nm := ⟨_, rfl⟩; rw [hnm] at k3 HTK; rw [hA2, hA3]; clear hA2 hA3 hz hc3 hnm; have HLJ : Sl ((x.n + j) + 1 ≤ 1000000) := ⟨by have := HLN.out; omega⟩; go_wp2_with (at_builtin; go_loud (refine wpList_append_os rfl (.tmp 70) (.tmp 75) rfl wb.heap.size A2 (x.n + j) c2 (FL ++ FK.take j) rfl (HO.out.alloc _) (some ⟨wr.heap.size, 0, none⟩) 1 1 [nm] rfl (SS.made _ _ _) HLJ.out (Nat.le_trans HD.out.bl.size (by simp)) ?_); rintro A2' c2' w2 zo zg zt; have HZ : Sl _ := ⟨And.intro zo zg⟩; clear zo zg zt); have hD2 : PrS wb w2 [(gx, 39, XC)] s := (HD.out.below ((Below.refl _ _).alloc (Nat.le_refl _) _)).app (HO.out.alloc _) HZ.out.2 (by intro q hq; simp only [List.mem_cons, List.not_mem_nil, or_false] at hq; subst hq; exact ne_str_reg); exact ⟨⟨j + 1, A2', c2', by omega, rfl, by go_num, ⟨hD2, by rw [HTK.out, ← List.append_assoc]; exact HZ.out.1⟩⟩, by simp [RowKit.intOf]; omega⟩
                  · obtain rfl : j = x.m := (by omega); rw [show FK.take x.m = FK from List.take_of_length_le (Nat.le_of_eq HFKN.out)] at HO; clear hj hjn; have HFN2 : Sl (frmN o x = FL ++ FK) := ⟨by rw [← HFL.out, ← HFK.out]; rfl⟩; obtain ⟨X, hX⟩ : ∃ X, FL ++ FK = X := ⟨_, rfl⟩; obtain ⟨N, hN⟩ : ∃ N, x.n + x.m = N := ⟨_, rfl⟩; rw [hX] at HO HFN2; rw [hN] at HO ⊢; have HN1 : Sl (N ≤ 104) := ⟨by have := HLN.out; omega⟩; have HXS : Sl (∀ y ∈ X, y.size ≤ 33) := ⟨by rw [← HFN2.out]; exact HSZ.out x⟩; replace HD : Sl _ := ⟨HD.out.drop⟩; have hN104 : (N : Int) ≤ 104 := (by have := HN1.out; omega); have HAA : Sl (X.length = N ∧ N ≤ c2 ∧ c2 ≤ maxLen) := ⟨HO.out.len, HO.out.cap⟩; have hNc : (N : Int) ≤ (c2 : Int) := (by have := HAA.out; omega); have hNc2 : N ≤ c2 := HAA.out.2.1; have hc2m : (c2 : Int) ≤ 9223372036854775807 := (by have := HAA.out.2.2; unfold maxLen at this; omega); clear hX hN HFL HFK HFLN HFKN HXC; have HM20 : Sl ((min (N : Int) 20).toNat ≤ 20) := ⟨by omega⟩; obtain ⟨m, hm⟩ : ∃ m, (min (N : Int) 20).toNat = m := ⟨_, rfl⟩; have HMM : Sl _ := ⟨hm⟩; rw [hm] at HM20; go_wp2_with (at_builtin; (try rw [hm]); go_loud (refine wpList_append_os rfl (.tmp 78) (.tmp 83) rfl wb.heap.size (some ⟨wr.heap.size, 0, none⟩) 1 1 [kFr] rfl (OS.made _ _ HD.out.bl.size) A2 m c2 (X.take 20) rfl (by rw [← hm]; exact (HO.out.alloc _).ss.take20) (by have := HM20.out; omega) (Nat.le_trans HD.out.bl.size (by simp)) ?_); rintro C c9 w7 zo zg zt; have HZ : Sl _ := ⟨And.intro zo zg⟩; clear zo zg zt); replace HD : Sl _ := ⟨(HD.out.below ((Below.refl _ _).alloc (Nat.le_refl _) _)).app (OS.made _ _ HD.out.bl.size) HZ.out.2 (by intro q hq; cases hq)⟩
                    replace HO : Sl _ := ⟨(HO.out.alloc (.cells #[.string kFr] 9)).grown HZ.out.2 (fun q hq e => by
                      have h1 := (HO.out.lt q hq).2; have e2 : some wr.heap.size = some q := e; injection e2 with e2
                      omega)⟩
                    have HW0 : Sl (s ++ frmX o x = s ++ frmT (5 - 0) kFr (X.drop (20 * 0))) := ⟨by unfold frmX; rw [HFN2.out]; rfl⟩; have HC : Sl (OS w7 wb.heap.size C (1 + (min (N : Int) 20).toNat) c9 (kFr :: (X.drop (20 * 0)).take 20)) := ⟨by rw [hm]; exact HZ.out.1⟩; have hmS : Value.slice C (1 + m) c9 = .slice C (1 + (min (N : Int) 20).toNat) c9 := (by rw [hm]); rw [hmS]; have HTS : Sl (s.size ≤ 10000 * k) := ⟨HTX.out.2⟩; clear hm hmS HZ HMM HM20 HFN2
                    go_loopw [14, 19] (fun s14 s19 wr => ∃ (i M : Nat) (A4 C : Option Addr) (c4 c9 : Nat) (kw t : ByteArray), M + 20 * i = N ∧ s14 = .slice A4 M c4 ∧ s19 = .slice C (1 + (min (M : Int) 20).toNat) c9 ∧ Sl (PrS wb wr [] t ∧ OS wr wb.heap.size A2 N c2 X ∧ OS wr wb.heap.size C (1 + (min (M : Int) 20).toNat) c9 (kw :: (X.drop (20 * i)).take 20)) ∧ Sl (A4 = dropA A2 (20 * i) ∧ M ≤ c4 ∧ c4 ≤ maxLen ∧ kw.size ≤ 5 ∧ t ++ frmT (5 - i) kw (X.drop (20 * i)) = s ++ frmX o x ∧ t.size ≤ 10000 * k + 1000 * i)) (fun s14 _ _ => lenOf s14)
                    case atStart => exact ⟨0, N, _, C, c2, c9, kFr, s, by omega, rfl, rfl, ⟨HD.out, HO.out, HC.out⟩, ⟨HO.out.drop0, HAA.out.2.1, HAA.out.2.2, by decide, HW0.out.symm, by have := HTS.out; omega⟩⟩
                    case round =>
                      clear HD HO HC HW0 HTS; obtain ⟨i, M, A4, C, c4, c9, kw, t, hM, rfl, rfl, HK, HI⟩ := hrel; have HD : Sl _ := ⟨HK.out.1⟩; have HO : Sl _ := ⟨HK.out.2.1⟩; have HC : Sl _ := ⟨HK.out.2.2⟩; clear HK; have HML : Sl ((X.drop (20 * i)).length = M ∧ M + 20 * i = N) := ⟨by rw [List.length_drop, HAA.out.1]; omega, hM⟩; have HYS : Sl (∀ y ∈ X.drop (20 * i), y.size ≤ 33) := ⟨fun y hy => HXS.out y (List.mem_of_mem_drop hy)⟩; have HJS : Sl ((joinB (kw :: (X.drop (20 * i)).take 20)).size ≤ 714 ∧ (lineB kw (X.drop (20 * i))).size ≤ 1000) := ⟨join_size33 HI.out.2.2.2.1 HYS.out, lineB_size HI.out.2.2.2.1 HYS.out⟩; have HLB : Sl (lineB kw (X.drop (20 * i)) = joinB (kw :: (X.drop (20 * i)).take 20) ++ ⟨#[10]⟩) := ⟨rfl⟩; obtain ⟨jb, hjb⟩ : ∃ jb, joinB (kw :: (X.drop (20 * i)).take 20) = jb := ⟨_, rfl⟩; have HJB : Sl _ := ⟨hjb⟩; rw [hjb] at HJS HLB; clear hjb; have hM104 : (M : Int) ≤ 104 := (by have := HN1.out; omega); have HCN : Sl (1 + (min (M : Int) 20).toNat ≤ 1000000) := ⟨by omega⟩; have hjs : jb.size ≤ 714 := HJS.out.1; have h10 : (⟨#[10]⟩ : ByteArray).size = 1 := rfl
                      by_cases p20 : 20 < M
                      · have p1 : decide ((20 : Int) < (M : Int)) = true := decide_eq_true (by omega); have p2 : (20 : Int) < (M : Int) := (by omega); obtain ⟨f, hf⟩ : ∃ f, 5 - i = f + 1 := ⟨4 - i, by have := HN1.out; omega⟩; have HF1 : Sl (5 - (i + 1) = f) := ⟨by omega⟩
                        have HFT : Sl ((t ++ lineB kw (X.drop (20 * i))) ++ frmT f kMo (X.drop (20 * (i + 1))) = s ++ frmX o x) := ⟨by
                          rw [← HI.out.2.2.2.2.1, hf, frmT, if_pos (by rw [HML.out.1]; exact p20), List.drop_drop, ByteArray.append_assoc]
                          rfl⟩
                        have HCC : Sl ((M : Int) ≤ (c4 : Int) ∧ (c4 : Int) ≤ 9223372036854775807) := ⟨by have := HI.out.2.1; have := HI.out.2.2.1; unfold maxLen at this; omega⟩; clear hf hM; go_wp2_with fail; refine (join_any _ _ _ _ _ _ HC.out HCN.out (by rw [HJB.out]; omega)).mono ?_; rintro e w8 ⟨rfl, hb⟩; replace HD : Sl _ := ⟨HD.out.below hb⟩; replace HO : Sl _ := ⟨HO.out.below hb⟩; rw [HJB.out]; clear hb HC; go_wp2_with fail; rw [← HLB.out]; refine (wstr_any _ _ _ _ HD.out.bd (by have := HI.out.2.2.2.2.2; have := HJS.out.2; have := HN5.out; have := HML.out.2; have := HN1.out; omega)).mono ?_; rintro e w9 ⟨⟨v, rfl⟩, z1, z2, z3⟩; replace HO : Sl _ := ⟨HO.out.kept HD.out.bd z3⟩; replace HD : Sl _ := ⟨HD.out.wr z1 z2 z3 (by intro q hq; cases hq)⟩; clear z1 z2 z3; obtain ⟨g4, hA4, _, hg4, _⟩ := HO.out.at_ (show 0 < N by have := HML.out.2; omega); have HA4 : Sl (A4 = some ⟨g4, 20 * i, none⟩) := ⟨by rw [HI.out.1, hA4]; exact congrArg (fun z => some (⟨g4, z, none⟩ : Addr)) (Nat.zero_add _)⟩; rw [HA4.out]; have hcc1 := HCC.out.1; have hcc2 := HCC.out.2
                        have HDR : Sl (∀ W, OS W wb.heap.size A2 N c2 X → SS W (some ⟨g4, 20 * i + 20, none⟩) (M - 20) (X.drop (20 * i + 20))) := ⟨fun W h => by
                          have h1 := h.drop (i := 20 * i + 20) (by have := HML.out.2; omega); rw [hA4, show N - (20 * i + 20) = M - 20 by have := HML.out.2; omega, show dropA (some ⟨g4, 0, none⟩) (20 * i + 20) = some ⟨g4, 20 * i + 20, none⟩ from congrArg (fun z => some (⟨g4, z, none⟩ : Addr)) (Nat.zero_add _)] at h1
                          exact h1⟩
                        have HDA : Sl (some ⟨g4, 20 * i + 20, none⟩ = dropA A2 (20 * (i + 1))) := ⟨by rw [hA4]; exact (congrArg (fun z => some (⟨g4, z, none⟩ : Addr)) (Nat.zero_add _)).symm⟩; clear hA4 hg4; have HM2 : Sl ((min ((M - 20 : Nat) : Int) 20).toNat ≤ 20) := ⟨by omega⟩; go_wp2_with (at_builtin; go_loud (refine wpList_append_os rfl (.tmp 94) (.tmp 99) rfl wb.heap.size (some ⟨w9.heap.size, 0, none⟩) 1 1 [kMo] rfl (OS.made _ _ HD.out.bl.size) (some ⟨g4, 20 * i + 20, none⟩) (min ((M - 20 : Nat) : Int) 20).toNat (c4 - 20) ((X.drop (20 * i + 20)).take 20) rfl (HDR.out _ (HO.out.alloc _)).take20 (by have := HM2.out; omega) (Nat.le_trans HD.out.bl.size (by simp)) ?_); rintro C2 c9' w10 zo zg zt; have HZ : Sl _ := ⟨And.intro zo zg⟩; clear zo zg zt); replace HD : Sl _ := ⟨(HD.out.below ((Below.refl _ _).alloc (Nat.le_refl _) _)).app (OS.made _ _ HD.out.bl.size) HZ.out.2 (by intro q hq; cases hq)⟩
                        replace HO : Sl _ := ⟨(HO.out.alloc (.cells #[.string kMo] 9)).grown HZ.out.2 (fun q hq e => by
                          have h1 := (HO.out.lt q hq).2; have e2 : some w9.heap.size = some q := e; injection e2 with e2
                          omega)⟩
                        refine ⟨⟨i + 1, M - 20, _, C2, c4 - 20, c9', kMo, _, by have := HML.out.2; omega, rfl, rfl, ⟨HD.out, HO.out, HZ.out.1⟩, ⟨HDA.out, by have := HI.out.2.1; omega, by have := HI.out.2.2.1; omega, by decide, by rw [HF1.out]; exact HFT.out, ?_⟩⟩, by simp [lenOf]; omega⟩; rw [ByteArray.size_append]; have := HI.out.2.2.2.2.2; have := HJS.out.2; omega
                      · have p1 : decide ((20 : Int) < (M : Int)) = false := decide_eq_false (by omega); have p2 : ¬ (20 : Int) < (M : Int) := (by omega)
                        have HFT : Sl (t ++ lineB kw (X.drop (20 * i)) = s ++ frmX o x) := ⟨by
                          rw [← HI.out.2.2.2.2.1, frmT_last (by rw [HML.out.1]; omega)]⟩
                        have HSZ2 : Sl ((s ++ frmX o x).size ≤ 10000 * (k + 1)) := ⟨by
                          rw [← HFT.out, ByteArray.size_append]; have := HI.out.2.2.2.2.2; have := HJS.out.2; have := HN1.out
                          omega⟩
                        go_wp2_with fail; refine (join_any _ _ _ _ _ _ HC.out HCN.out (by rw [HJB.out]; omega)).mono ?_; rintro e w8 ⟨rfl, hb⟩; replace HD : Sl _ := ⟨HD.out.below hb⟩; rw [HJB.out]; clear hb HC HO; go_wp2_with fail; rw [← HLB.out]; refine (wstr_any _ _ _ _ HD.out.bd (by have := HI.out.2.2.2.2.2; have := HJS.out.2; have := HN5.out; have := HML.out.2; have := HN1.out; omega)).mono ?_; rintro e w9 ⟨⟨v, rfl⟩, z1, z2, z3⟩; replace HD : Sl _ := ⟨HD.out.wr z1 z2 z3 (by intro q hq; cases hq)⟩; rw [HFT.out] at HD; clear z1 z2 z3; go_wp2_with fail; exact ⟨⟨k + 1, _, by omega, by go_num, ⟨HD.out, HXN.out.symm, HSZ2.out⟩, HFN⟩, by simp [RowKit.intOf]; omega⟩
          · have q0 : (e1 != 0) = true := (by rw [bne_iff_ne]; exact he0); have HR : Sl (r = e1) := ⟨by rw [HST.out, if_neg (by rw [HFR.out]; exact he0), HFR.out]⟩; have HX : Sl (printX o L = ⟨#[]⟩) := ⟨by rw [HPX.out, if_neg (by rw [HR.out]; exact he0)]⟩; clear he0; go_wp2_with fail
            (try simp only [Exit.inBlock, Exit.then])
            go_ret2; exact ⟨by rw [HR.out, HX.out]; rfl, HWW.out _ HD.out.bl⟩
        · obtain rfl : k = n := (by omega); have HR : Sl (r = 0) := ⟨by rw [← HKE.out, Nat.sub_self]; rfl⟩; have HX : Sl (printX o L = s) := ⟨by rw [HPX.out, if_pos HR.out, HTX.out.1, List.take_of_length_le (by rw [HT.out.row.len]; exact Nat.le_refl _)]⟩; go_wp2_with fail; refine (bstr_any _ _ _ HD.out.bd).mono ?_; rintro e w6 ⟨rfl, hb⟩; go_wp2_with fail; go_ret2; exact ⟨by rw [HR.out, HX.out]; rfl, (HS.out.bl.trans (HD.out.bl.mono HPA.out)).trans (hb.mono HPA.out)⟩
  · rw [if_neg hs0] at HE; have q0 : (s != 0) = true := (by rw [bne_iff_ne]; exact hs0); have HX : Sl (printX o L = ⟨#[]⟩) := ⟨by rw [HPX.out, if_neg (by rw [HE.out]; exact hs0)]⟩; clear hs0; go_wp2_with fail; go_ret2; exact ⟨by rw [HE.out, HX.out]; rfl, HD.out.bl⟩
end Go.Proofs.YtbaojmfkjpnfhaaDoor
namespace Go.Proofs.YtbaojmfkjpnfhaaDoor
set_option linter.unusedSimpArgs false
open Go.RowKit
set_option linter.unusedVariables false
theorem wpList_made {P : Program} {ops : Array Oper} {Q : Exit → Act → World → Prop} {op : Oper} {rest : List Oper} {a : Act} {w : World} (k : Tmp) (hdst : op.dst = some k) (hgd : op.guard = none) (ty : TypeId) (n : Nat) (cells : Array Value)
    (hr : ∀ w : World, (execOp a.eval op).run P w = .ok (.value (.slice (some ⟨w.heap.size, 0, none⟩) n n)) (w.alloc (.cells cells ty)))
    (h : ∀ w' g, g = w.heap.size → Mv w.heap.size w w' → w'.heap.size = g + 1 → Blk w' g ty cells → wpList P ops Q rest (a.put op.dst (.slice (some ⟨g, 0, none⟩) n n)) w') : wpList P ops Q (op :: rest) a w := by
  refine wpList_plain hgd fun K hK => ?_
  unfold Oper.wp; rw [hr w, Oper.upon_value]; exact hK _ _ (h _ _ rfl (Mv.of_below ((Below.refl _ _).alloc (Nat.le_refl _) _)) (by simp) (Blk.new w ty cells))
theorem RowG.of_blk {α : Type} {w : World} {g : Nat} {t : TypeId} {cs : Array Value} {n sz : Nat} {f : α → List Value} {l : List α} (h : Blk w g t cs) (hf : ∀ p, (f p).length = sz) (hl : l.length = n) (hc : cs.toList = l.flatMap f) : RowG w (some ⟨g, 0, none⟩) n sz f l := by
  refine ⟨hl, ⟨by rw [flG_len f sz hf, hl], fun _ => ⟨_, rfl, h.lt, fun j u hu => ?_⟩⟩, hf⟩; rw [← hc] at hu; rw [show (⟨g, 0, none⟩ : Addr).add j = ⟨g, j, none⟩ by unfold Addr.add; split <;> simp_all]; have := h.cell j; rw [this, ← Array.getElem?_toList]; exact hu
def exO (A1 A2 A3 A4 P1 P2 P3 : Option Addr) : SpO := ⟨A1, 1, 1, [⟨⟨#[103, 114, 101, 97, 116]⟩, 36, 60⟩], A2, 2, 2, [⟨⟨#[102, 108, 117, 116, 101]⟩, 2, 8, 1, 36, 37⟩, ⟨⟨#[114, 101, 101, 100]⟩, 4, 8, 1, 36, 13⟩],
  A3, 3, 3, [⟨⟨#[102, 108, 117, 116, 101, 56]⟩, 0, 8, 1, P1, 1, 1, [⟨0, 0, 36, 60⟩]⟩, ⟨⟨#[102, 108, 117, 116, 101, 52]⟩, 0, 4, 1, P2, 1, 1, [⟨0, 12, 36, 60⟩]⟩, ⟨⟨#[98, 97, 115, 115]⟩, 0, 8, 1, P3, 1, 1, [⟨1, 0, 36, 48⟩]⟩], A4, 1, 1, [⟨⟨#[111, 99, 116, 97, 118, 101]⟩, 0, 0, 12, 0, false⟩]⟩
instance decI64 (z : Int) : Decidable (i64 z) := by unfold i64; infer_instance
theorem exO_F (A1 A2 A3 A4 P1 P2 P3 : Option Addr) : SpF (exO A1 A2 A3 A4 P1 P2 P3) := by
  have m1 : (1 : Nat) ≤ maxLen := (by decide); have m2 : (2 : Nat) ≤ maxLen := (by decide); have m3 : (3 : Nat) ≤ maxLen := (by decide); constructor
  · exact ⟨⟨Nat.le_refl _, m1⟩, ⟨Nat.le_refl _, m2⟩, ⟨Nat.le_refl _, m3⟩, ⟨Nat.le_refl _, m1⟩⟩
  · intro x hx; simp only [exO, List.mem_cons, List.not_mem_nil, or_false] at hx; subst hx; exact ⟨by decide, by decide, by decide⟩
  · intro x hx; simp only [exO, List.mem_cons, List.not_mem_nil, or_false] at hx; rcases hx with rfl | rfl <;> exact ⟨by decide, by decide, by decide, by decide, by decide, by decide⟩
  · intro x hx; simp only [exO, List.mem_cons, List.not_mem_nil, or_false] at hx; rcases hx with rfl | rfl | rfl <;> dsimp only <;> refine ⟨by decide, by decide, by decide, by decide, ⟨by decide, m1⟩, fun p hp => ?_⟩ <;> simp only [List.mem_cons, List.not_mem_nil, or_false] at hp <;> subst hp <;> exact ⟨by decide, by decide, by decide, by decide⟩
  · intro x hx; simp only [exO, List.mem_cons, List.not_mem_nil, or_false] at hx; subst hx; exact ⟨by decide, by decide, by decide, by decide, by decide⟩
theorem alloc_spec (w : World) : (Instr.alloc 35 true (.tuple #[])).run Tryd.prog w = .ok (.pointer (some ⟨w.heap.size, 0, none⟩)) (w.alloc (.cells #[.slice none 0 0, .slice none 0 0, .slice none 0 0, .slice none 0 0] 35)) := by kernel_rfl
theorem alloc_feet (w : World) : (Instr.alloc 60 true (.tuple #[])).run Tryd.prog w = .ok (.pointer (some ⟨w.heap.size, 0, none⟩)) (w.alloc (.cells #[.int .i64 0, .int .i64 0] 60)) := by kernel_rfl
set_option maxHeartbeats 6400000 in
set_option maxRecDepth 100000 in
theorem example_any (w : World) : Calls Tryd.prog 8 #[] w fun e w' =>
    (∃ A1 A2 A3 A4 P1 P2 P3, e = .returned (.agg #[.slice A1 1 1, .slice A2 2 2, .slice A3 3 3, .slice A4 1 1]) ∧ SpM w' (exO A1 A2 A3 A4 P1 P2 P3)) ∧ Below w.heap.size w w' := by
  have HD : Sl (Lg w w []) := ⟨Lg.nil w⟩; go_enter Tryd.func8, Tryd.ntmps8
  go_wp2_with ((with_reducible show wpList _ _ _ _ _ _); first
    | (refine wpList_alloc_new 0 rfl rfl 35 rfl #[.slice none 0 0, .slice none 0 0, .slice none 0 0, .slice none 0 0] alloc_spec ?_; rintro w1 g0 zg zm zs zb; replace HD : Sl _ := ⟨HD.out.new zg zm zb⟩; clear zg zm zs zb)
    | (refine wpList_alloc_new 1 rfl rfl 60 rfl #[.int .i64 0, .int .i64 0] alloc_feet ?_; rintro w2 g1 zg zm zs zb; replace HD : Sl _ := ⟨HD.out.new zg zm zb⟩; clear zg zm zs zb)
    | (refine wpList_alloc_new 2 rfl rfl 60 rfl #[.int .i64 0, .int .i64 0] alloc_feet ?_; rintro w3 g2 zg zm zs zb; replace HD : Sl _ := ⟨HD.out.new zg zm zb⟩; clear zg zm zs zb)
    | (refine wpList_store_whole rfl 60 (.tmp 1) (.tmp 3) rfl g1 #[.int .i64 8, .int .i64 1] rfl rfl 60 _ (HD.out.at_ 1 rfl) rfl (by kernel_rfl) (by simp [Value.oneCell']) ?_; rintro w4 zm zs zb; replace HD : Sl _ := ⟨HD.out.set 1 rfl zm zb⟩; clear zm zs zb)
    | (refine wpList_store_whole rfl 60 (.tmp 2) (.tmp 4) rfl g2 #[.int .i64 4, .int .i64 1] rfl rfl 60 _ (HD.out.at_ 0 rfl) rfl (by kernel_rfl) (by simp [Value.oneCell']) ?_; rintro w5 zm zs zb; replace HD : Sl _ := ⟨HD.out.set 0 rfl zm zb⟩; clear zm zs zb)
    | (refine wpList_made 6 rfl rfl 62 1 #[.string ⟨#[103, 114, 101, 97, 116]⟩, .int .i64 36, .int .i64 60] (fun _ => by kernel_rfl) ?_; rintro w6 gd zg zm zs zb; replace HD : Sl _ := ⟨HD.out.new zg zm zb⟩; clear zg zm zs zb)
    | (refine wpList_load_whole rfl 60 (.tmp 1) rfl g1 rfl 60 _ _ (HD.out.at_ 2 rfl) Tryd.underlying60 rfl (by kernel_rfl) ?_)
    | (refine wpList_load_whole rfl 60 (.tmp 1) rfl g1 rfl 60 _ _ (HD.out.at_ 2 rfl) Tryd.underlying60 rfl (by kernel_rfl) ?_)
    | (refine wpList_made 11 rfl rfl 64 2 #[.string ⟨#[102, 108, 117, 116, 101]⟩, .int .i64 2, .int .i64 8, .int .i64 1, .int .i64 36, .int .i64 37, .string ⟨#[114, 101, 101, 100]⟩, .int .i64 4, .int .i64 8, .int .i64 1, .int .i64 36, .int .i64 13] (fun _ => by kernel_rfl) ?_; rintro w7 gr zg zm zs zb; replace HD : Sl _ := ⟨HD.out.new zg zm zb⟩; clear zg zm zs zb)
    | (refine wpList_load_whole rfl 60 (.tmp 1) rfl g1 rfl 60 _ _ (HD.out.at_ 3 rfl) Tryd.underlying60 rfl (by kernel_rfl) ?_)
    | (refine wpList_made 14 rfl rfl 66 1 #[.int .i64 0, .int .i64 0, .int .i64 36, .int .i64 60] (fun _ => by kernel_rfl) ?_; rintro w8 p1 zg zm zs zb; replace HD : Sl _ := ⟨HD.out.new zg zm zb⟩; clear zg zm zs zb)
    | (refine wpList_load_whole rfl 60 (.tmp 2) rfl g2 rfl 60 _ _ (HD.out.at_ 3 rfl) Tryd.underlying60 rfl (by kernel_rfl) ?_)
    | (refine wpList_made 18 rfl rfl 66 1 #[.int .i64 0, .int .i64 12, .int .i64 36, .int .i64 60] (fun _ => by kernel_rfl) ?_; rintro w9 p2 zg zm zs zb; replace HD : Sl _ := ⟨HD.out.new zg zm zb⟩; clear zg zm zs zb)
    | (refine wpList_load_whole rfl 60 (.tmp 1) rfl g1 rfl 60 _ _ (HD.out.at_ 5 rfl) Tryd.underlying60 rfl (by kernel_rfl) ?_)
    | (refine wpList_made 22 rfl rfl 66 1 #[.int .i64 1, .int .i64 0, .int .i64 36, .int .i64 48] (fun _ => by kernel_rfl) ?_; rintro w10 p3 zg zm zs zb; replace HD : Sl _ := ⟨HD.out.new zg zm zb⟩; clear zg zm zs zb)
    | (refine wpList_made 24 rfl rfl 69 3 #[.string ⟨#[102, 108, 117, 116, 101, 56]⟩, .int .i64 0, .int .i64 8, .int .i64 1, .slice (some ⟨p1, 0, none⟩) 1 1, .string ⟨#[102, 108, 117, 116, 101, 52]⟩, .int .i64 0, .int .i64 4, .int .i64 1, .slice (some ⟨p2, 0, none⟩) 1 1, .string ⟨#[98, 97, 115, 115]⟩, .int .i64 0, .int .i64 8, .int .i64 1, .slice (some ⟨p3, 0, none⟩) 1 1] (fun _ => by kernel_rfl) ?_; rintro w11 gs zg zm zs zb; replace HD : Sl _ := ⟨HD.out.new zg zm zb⟩; clear zg zm zs zb)
    | (refine wpList_made 26 rfl rfl 71 1 #[.string ⟨#[111, 99, 116, 97, 118, 101]⟩, .int .i64 0, .int .i64 0, .int .i64 12, .int .i64 0, .bool false] (fun _ => by kernel_rfl) ?_; rintro w12 gc zg zm zs zb; replace HD : Sl _ := ⟨HD.out.new zg zm zb⟩; clear zg zm zs zb)
    | (refine wpList_store_whole rfl 35 (.tmp 0) (.tmp 27) rfl g0 #[.slice (some ⟨gd, 0, none⟩) 1 1, .slice (some ⟨gr, 0, none⟩) 2 2, .slice (some ⟨gs, 0, none⟩) 3 3, .slice (some ⟨gc, 0, none⟩) 1 1] rfl rfl 35 _ (HD.out.at_ 9 rfl) rfl (by kernel_rfl) (by simp [Value.oneCell']) ?_; rintro w13 zm zs zb; replace HD : Sl _ := ⟨HD.out.set 9 rfl zm zb⟩; clear zm zs zb))
  refine bodyPost_ret (results_row1c rfl _ _ g0 _ _ _ rfl (HD.out.at_ 9 rfl) Tryd.underlying35 rfl (by kernel_rfl)) rfl ?_; refine ⟨⟨some ⟨gd, 0, none⟩, some ⟨gr, 0, none⟩, some ⟨gs, 0, none⟩, some ⟨gc, 0, none⟩, some ⟨p1, 0, none⟩, some ⟨p2, 0, none⟩, some ⟨p3, 0, none⟩, rfl, ?_⟩, HD.out.bl⟩; refine ⟨.of_blk (HD.out.at_ 6 rfl) (fun _ => rfl) rfl rfl, .of_blk (HD.out.at_ 5 rfl) (fun _ => rfl) rfl rfl, .of_blk (HD.out.at_ 1 rfl) (fun _ => rfl) rfl rfl, .of_blk (HD.out.at_ 0 rfl) (fun _ => rfl) rfl rfl, fun y hy => ?_⟩; simp only [exO, List.mem_cons, List.not_mem_nil, or_false] at hy; rcases hy with rfl | rfl | rfl
  · exact .of_blk (HD.out.at_ 4 rfl) (fun _ => rfl) rfl rfl
  · exact .of_blk (HD.out.at_ 3 rfl) (fun _ => rfl) rfl rfl
  · exact .of_blk (HD.out.at_ 2 rfl) (fun _ => rfl) rfl rfl
def tbL (a b c d : Option Addr) : List RgV := [⟨a, 1, 1, [0], none, 0, 0, []⟩, ⟨b, 1, 1, [2], c, 1, 1, [0]⟩, ⟨d, 1, 1, [1], none, 0, 0, []⟩]
theorem II.of_blk {w : World} {g n : Nat} {t : TypeId} {cs : Array Value} {l : List Int} (h : Blk w g t cs) (hl : l.length = n) (hc : cs.toList = l.map iv) : II w (some ⟨g, 0, none⟩) n l := by
  refine ⟨hl, by rw [List.length_map, hl, Nat.mul_one], fun _ => ⟨_, rfl, h.lt, fun j u hu => ?_⟩⟩; rw [← hc] at hu; rw [show (⟨g, 0, none⟩ : Addr).add j = ⟨g, j, none⟩ by unfold Addr.add; split <;> simp_all]; have := h.cell j; rw [this, ← Array.getElem?_toList]; exact hu
set_option maxHeartbeats 6400000 in
set_option maxRecDepth 100000 in
theorem table_any (w : World) : Calls Tryd.prog 10 #[] w fun e w' =>
    (∃ T a b c d, e = .returned (.agg #[.slice T 3 3]) ∧ TbM w' T 3 3 (tbL a b c d)) ∧ Below w.heap.size w w' := by
  have HD : Sl (Lg w w []) := ⟨Lg.nil w⟩; go_enter Tryd.func10, Tryd.ntmps10
  go_wp2_with ((with_reducible show wpList _ _ _ _ _ _); first
    | (refine wpList_alloc_new 0 rfl rfl 44 rfl #[.slice none 0 0] alloc_cre ?_; rintro w1 g0 zg zm zs zb; replace HD : Sl _ := ⟨HD.out.new zg zm zb⟩; clear zg zm zs zb)
    | (refine wpList_made 1 rfl rfl 3 1 #[.int .i64 0] (fun _ => by kernel_rfl) ?_; rintro w2 a zg zm zs zb; replace HD : Sl _ := ⟨HD.out.new zg zm zb⟩; clear zg zm zs zb)
    | (refine wpList_made 3 rfl rfl 3 1 #[.int .i64 2] (fun _ => by kernel_rfl) ?_; rintro w3 b zg zm zs zb; replace HD : Sl _ := ⟨HD.out.new zg zm zb⟩; clear zg zm zs zb)
    | (refine wpList_made 4 rfl rfl 3 1 #[.int .i64 0] (fun _ => by kernel_rfl) ?_; rintro w4 c zg zm zs zb; replace HD : Sl _ := ⟨HD.out.new zg zm zb⟩; clear zg zm zs zb)
    | (refine wpList_made 6 rfl rfl 3 1 #[.int .i64 1] (fun _ => by kernel_rfl) ?_; rintro w5 d zg zm zs zb; replace HD : Sl _ := ⟨HD.out.new zg zm zb⟩; clear zg zm zs zb)
    | (refine wpList_made 8 rfl rfl 39 3 #[.slice (some ⟨a, 0, none⟩) 1 1, .slice none 0 0, .slice (some ⟨b, 0, none⟩) 1 1, .slice (some ⟨c, 0, none⟩) 1 1, .slice (some ⟨d, 0, none⟩) 1 1, .slice none 0 0] (fun _ => by kernel_rfl) ?_; rintro w6 gt zg zm zs zb; replace HD : Sl _ := ⟨HD.out.new zg zm zb⟩; clear zg zm zs zb)
    | (refine wpList_store_whole rfl 44 (.tmp 0) (.tmp 9) rfl g0 #[.slice (some ⟨gt, 0, none⟩) 3 3] rfl rfl 44 _ (HD.out.at_ 5 rfl) rfl (by kernel_rfl) (by simp [Value.oneCell']) ?_; rintro w7 zm zs zb; replace HD : Sl _ := ⟨HD.out.set 5 rfl zm zb⟩; clear zm zs zb))
  refine bodyPost_ret (results_row1c rfl _ _ g0 _ _ _ rfl (HD.out.at_ 5 rfl) Tryd.underlying44 rfl (by kernel_rfl)) rfl ?_; refine ⟨⟨some ⟨gt, 0, none⟩, some ⟨a, 0, none⟩, some ⟨b, 0, none⟩, some ⟨c, 0, none⟩, some ⟨d, 0, none⟩, rfl, ?_⟩, HD.out.bl⟩; refine ⟨.of_blk (HD.out.at_ 0 rfl) (fun _ => rfl) rfl rfl, ⟨Nat.le_refl _, by decide⟩, fun y hy => ?_⟩; simp only [tbL, List.mem_cons, List.not_mem_nil, or_false] at hy; rcases hy with rfl | rfl | rfl
  · exact ⟨.of_blk (HD.out.at_ 4 rfl) rfl rfl, II.nil _ _, ⟨Nat.le_refl _, by show 1 ≤ maxLen; decide⟩, ⟨Nat.le_refl _, Nat.zero_le _⟩⟩
  · exact ⟨.of_blk (HD.out.at_ 3 rfl) rfl rfl, .of_blk (HD.out.at_ 2 rfl) rfl rfl, ⟨Nat.le_refl _, by show 1 ≤ maxLen; decide⟩, ⟨Nat.le_refl _, by show 1 ≤ maxLen; decide⟩⟩
  · exact ⟨.of_blk (HD.out.at_ 1 rfl) rfl rfl, II.nil _ _, ⟨Nat.le_refl _, by show 1 ≤ maxLen; decide⟩, ⟨Nat.le_refl _, Nat.zero_le _⟩⟩
end Go.Proofs.YtbaojmfkjpnfhaaDoor
namespace Go.Proofs.YtbaojmfkjpnfhaaDoor
set_option linter.unusedSimpArgs false
open Go.RowKit
set_option linter.unusedVariables false
set_option maxHeartbeats 3200000 in
set_option maxRecDepth 100000 in
theorem sameI_any (A B : Option Addr) (n c d : Nat) (l : List Int) (w : World) (h1 : II w A n l) (h2 : II w B n l) (hn : n ≤ 1000000) :
    Calls Tryd.prog 20 #[.slice A n c, .slice B n d] w fun e w' => e = .returned (.bool true) ∧ Below w.heap.size w w' := by
  have H1 : Sl _ := ⟨h1⟩; have H2 : Sl _ := ⟨h2⟩; have HB : Sl _ := ⟨Below.refl w.heap.size w⟩; have hne : ((n : Int) != (n : Int)) = false := (by simp); clear h1 h2; go_enter Tryd.func20, Tryd.ntmps20; go_wp2_with fail
  go_loopw [5] (fun s5 wv => ∃ k : Nat, k ≤ n ∧ s5 = .int .i64 k ∧ Sl (Below w.heap.size w wv)) (fun s5 _ => n - (RowKit.intOf s5).toNat)
  case atStart => exact ⟨0, Nat.zero_le _, rfl, HB⟩
  case round =>
    clear HB; obtain ⟨k, hk, rfl, HB⟩ := hrel
    by_cases hkn : k < n
    · have hkI : decide ((k : Int) < (n : Int)) = true := decide_eq_true (by omega); have hkI2 : (k : Int) < (n : Int) := (by omega); obtain ⟨a1, e1, hb1, c1⟩ := (H1.out.below HB.out).cell (j := k) hkn; obtain ⟨a2, e2, hb2, c2⟩ := (H2.out.below HB.out).cell (j := k) hkn; rw [e1, e2]; clear e1 e2; obtain ⟨z, hz⟩ : ∃ z, gt l k = z := ⟨_, rfl⟩; rw [hz] at c1 c2; have hzz : (z != z) = false := (by simp); go_wp2_with fail
      go_quiet (fail)
      go_wp2_with fail; exact ⟨⟨k + 1, by omega, by go_num, ⟨below_drewN HB.out _⟩⟩, by simp [RowKit.intOf]; omega⟩
    · obtain rfl : k = n := (by omega); go_wp2_with fail; go_ret; exact ⟨rfl, HB.out⟩
structure GG (w : World) (A : Option Addr) (n : Nat) (L : List SlV) : Prop where
  len : L.length = n
  rd : Reads w w.heap.size 1 A n (L.map SlV.val)
  all : ∀ s ∈ L, II w s.A s.n s.l
theorem GG.below {w w' : World} {A : Option Addr} {n : Nat} {L : List SlV} (h : GG w A n L) (hb : Below w.heap.size w w') : GG w' A n L := ⟨h.len, (h.rd.below hb).more hb.size, fun s hs => (h.all s hs).below hb⟩
theorem GG.cell {w : World} {A : Option Addr} {n : Nat} {L : List SlV} (h : GG w A n L) {j : Nat} (hj : j < n) : ∃ ad s, A = some ad ∧ ad.block < w.heap.size ∧ L[j]? = some s ∧ w.cell? (ad.add j) = some s.val ∧ II w s.A s.n s.l := by
  have hl := h.len; obtain ⟨ad, e, hb, hc⟩ := h.rd.2 (by omega); refine ⟨ad, L[j], e, hb, List.getElem?_eq_getElem (by omega), hc j _ ?_, h.all _ (List.getElem_mem _)⟩; rw [List.getElem?_map, List.getElem?_eq_getElem (by omega)]; rfl
theorem GG.of_og {w : World} {base : Nat} {A : Option Addr} {n c : Nat} {L : List SlV} (h : OG w base A n c L) : GG w A n L := ⟨h.len, Reads.of_own h.row, fun s hs => (h.all s hs).ii⟩
theorem GG.of_blk {w : World} {g n : Nat} {t : TypeId} {cs : Array Value} {L : List SlV} (h : Blk w g t cs) (hl : L.length = n) (hc : cs.toList = L.map SlV.val) (ha : ∀ s ∈ L, II w s.A s.n s.l) : GG w (some ⟨g, 0, none⟩) n L := by
  refine ⟨hl, ⟨by rw [List.length_map, hl, Nat.mul_one], fun _ => ⟨_, rfl, h.lt, fun j u hu => ?_⟩⟩, ha⟩; rw [← hc] at hu; rw [show (⟨g, 0, none⟩ : Addr).add j = ⟨g, j, none⟩ by unfold Addr.add; split <;> simp_all]; have := h.cell j; rw [this, ← Array.getElem?_toList]; exact hu
set_option maxHeartbeats 3200000 in
set_option maxRecDepth 100000 in
theorem groups_any (A B : Option Addr) (n c d : Nat) (L M : List SlV) (w : World) (h1 : GG w A n L) (h2 : GG w B n M) (hn : n ≤ 1000000) (he : L.map SlV.l = M.map SlV.l) (hL : ∀ s ∈ L, s.n ≤ 1000000) :
    Calls Tryd.prog 7 #[.slice A n c, .slice B n d] w fun e w' => e = .returned (.bool true) ∧ Below w.heap.size w w' := by
  have H1 : Sl _ := ⟨h1⟩; have H2 : Sl _ := ⟨h2⟩; have HE : Sl _ := ⟨he⟩; have HL : Sl _ := ⟨hL⟩; have HB : Sl _ := ⟨Below.refl w.heap.size w⟩; have hne : ((n : Int) != (n : Int)) = false := (by simp); clear h1 h2 he hL; go_enter Tryd.func7, Tryd.ntmps7; go_wp2_with fail
  go_loopw [5] (fun s5 wv => ∃ k : Nat, k ≤ n ∧ s5 = .int .i64 k ∧ Sl (Below w.heap.size w wv)) (fun s5 _ => n - (RowKit.intOf s5).toNat)
  case atStart => exact ⟨0, Nat.zero_le _, rfl, HB⟩
  case round =>
    clear HB; obtain ⟨k, hk, rfl, HB⟩ := hrel
    by_cases hkn : k < n
    · have hkI : decide ((k : Int) < (n : Int)) = true := decide_eq_true (by omega); have hkI2 : (k : Int) < (n : Int) := (by omega); have hk0 : (0 : Int) ≤ (k : Int) := (by omega); obtain ⟨a1, x, e1, hb1, hx, c1, i1⟩ := (H1.out.below HB.out).cell (j := k) hkn; obtain ⟨a2, y, e2, hb2, hy, c2, i2⟩ := (H2.out.below HB.out).cell (j := k) hkn
      have hxy : y.l = x.l := by
        have := congrArg (fun l => l[k]?) HE.out; simp only [List.getElem?_map, hx, hy, Option.map_some, Option.some.injEq] at this; exact this.symm
      have hnn : y.n = x.n := (by rw [← i1.1, ← i2.1, hxy]); rw [hxy, hnn] at i2; have HX : Sl (∀ W, Below wr.heap.size wr W → Calls Tryd.prog 20 #[.slice x.A x.n x.c, .slice y.A x.n y.c] W fun e w' => e = .returned (.bool true) ∧ Below W.heap.size W w') := ⟨fun W hW => sameI_any x.A y.A x.n x.c y.c x.l W (i1.below hW) (i2.below hW) (HL.out x (List.mem_of_getElem? hx))⟩; have HC1 : Sl (∀ W, Below wr.heap.size wr W → W.cell? (a1.add k) = some (.slice x.A x.n x.c)) := ⟨fun W hW => (hW.cell (by rw [block_of_add]; exact hb1)).trans c1⟩; have HC2 : Sl (∀ W, Below wr.heap.size wr W → W.cell? (a2.add k) = some (.slice y.A x.n y.c)) := ⟨fun W hW => by rw [← hnn]; exact (hW.cell (by rw [block_of_add]; exact hb2)).trans c2⟩; rw [e1, e2]; clear e1 e2 c1 c2 i1 i2 hx hy hxy hnn; have hS0 : Below wr.heap.size wr wr.drew := below_drewN (Below.refl _ _) 1; have hSR := hS0; go_wp2_with fail; have hm := hS0; refine wp_region_held_drew (S := fun w' => Below wr.heap.size wr w') (by kernel_rfl) hm (fun hHeld => ?_); clear hm; refine wpAnyH_pure 0 (v := .slice (some a1) n c) rfl (by kernel_rfl) (by kernel_rfl) (by kernel_rfl) (fun _ _ _ h => h) rfl (fun _ => rfl) (by assumption) ?_; simp only [Act.put, sS0, sS1, sS2]; refine wpAnyH_pure 1 (v := .int .i64 (k : Int)) rfl (by kernel_rfl) (by kernel_rfl) (by kernel_rfl) (fun _ _ _ h => h) rfl (fun _ => rfl) (by assumption) ?_; simp only [Act.put, sS0, sS1, sS2]; refine wpAnyH_pure 2 (v := .pointer (some (a1.add k))) rfl (by kernel_rfl) (by kernel_rfl) (by kernel_rfl) (fun _ _ _ h => h) rfl (fun _ => by go_simp) (by assumption) ?_; simp only [Act.put, sS0, sS1, sS2]
      refine wpAnyH_cell 3 (v := .slice x.A x.n x.c) rfl rfl (fun w' h => by
        have hc := HC1.out w' h
        go_simp) (by kernel_rfl) (by kernel_rfl) (by kernel_rfl) (fun _ _ _ h => h) (by assumption) ?_
      simp only [Act.put, sS0, sS1, sS2]; refine wpAnyH_pure 4 (v := .slice (some a2) n d) rfl (by kernel_rfl) (by kernel_rfl) (by kernel_rfl) (fun _ _ _ h => h) rfl (fun _ => rfl) (by assumption) ?_; simp only [Act.put, sS0, sS1, sS2]; refine wpAnyH_pure 5 (v := .int .i64 (k : Int)) rfl (by kernel_rfl) (by kernel_rfl) (by kernel_rfl) (fun _ _ _ h => h) rfl (fun _ => rfl) (by assumption) ?_; simp only [Act.put, sS0, sS1, sS2]; refine wpAnyH_pure 6 (v := .pointer (some (a2.add k))) rfl (by kernel_rfl) (by kernel_rfl) (by kernel_rfl) (fun _ _ _ h => h) rfl (fun _ => by go_simp) (by assumption) ?_; simp only [Act.put, sS0, sS1, sS2]
      refine wpAnyH_cell 7 (v := .slice y.A x.n y.c) rfl rfl (fun w' h => by
        have hc := HC2.out w' h
        go_simp) (by kernel_rfl) (by kernel_rfl) (by kernel_rfl) (fun _ _ _ h => h) (by assumption) ?_
      simp only [Act.put, sS0, sS1, sS2]; refine wpAnyH_one 8 rfl (by kernel_rfl) rfl (fun K hK => ?_); go_simp; go_at_call 20
      (with_reducible refine (HX.out _ hSR).mono ?_)
      rintro e w6 ⟨rfl, hb⟩; have hW6 : Below wr.heap.size wr w6 := hSR.trans (hb.mono hSR.size); refine hK.out _ _ hW6 (fun hHeld => ?_); clear hK K
      (try simp only [Act.put, sS0, sS1, sS2])
      refine wpAnyH_pure 9 (v := .bool false) rfl (by kernel_rfl) (by kernel_rfl) (by kernel_rfl) (fun _ _ _ h => h) rfl (fun _ => by go_simp) (by assumption) ?_; simp only [Act.put, sS0, sS1, sS2]; refine wpAnyH_done (by kernel_rfl) ?_ _; go_wp2_with fail; exact ⟨⟨k + 1, by omega, by go_num, ⟨HB.out.trans (hW6.mono HB.out.size)⟩⟩, by simp [RowKit.intOf]; omega⟩
    · obtain rfl : k = n := (by omega); go_wp2_with fail; go_ret; exact ⟨rfl, HB.out⟩
set_option maxHeartbeats 3200000 in
set_option maxRecDepth 100000 in
theorem sameR_any (r s : RgV) (w : World) (hr : RgM w r) (hs : RgM w s) (h1 : s.l = r.l) (h2 : s.k = r.k) (hn : r.n ≤ 1000000) (hm : r.m ≤ 1000000) :
    Calls Tryd.prog 13 #[.agg #[.slice r.A r.n r.c, .slice r.B r.m r.d], .agg #[.slice s.A s.n s.c, .slice s.B s.m s.d]] w fun e w' => e = .returned (.bool true) ∧ Below w.heap.size w w' := by
  have e1 : s.n = r.n := (by rw [← hs.s.1, ← hr.s.1, h1]); have e2 : s.m = r.m := (by rw [← hs.c.1, ← hr.c.1, h2]); have i1 := hs.s; have i2 := hs.c; rw [e1, h1] at i1; rw [e2, h2] at i2; rw [e1, e2]; have H1 : Sl _ := ⟨fun W (hW : Below w.heap.size w W) => sameI_any r.A s.A r.n r.c s.c r.l W (hr.s.below hW) (i1.below hW) hn⟩; have H2 : Sl _ := ⟨fun W (hW : Below w.heap.size w W) => sameI_any r.B s.B r.m r.d s.d r.k W (hr.c.below hW) (i2.below hW) hm⟩; have HD : Sl (Lg w w []) := ⟨Lg.nil w⟩; clear e1 e2 i1 i2 h1 h2 hr hs; go_enter Tryd.func13, Tryd.ntmps13
  go_upto_region 1 with ((with_reducible show wpList _ _ _ _ _ _); first
    | (refine wpList_box_new 2 rfl rfl 39 (.tmp 0) rfl #[.slice r.A r.n r.c, .slice r.B r.m r.d] rfl (fun _ => by kernel_rfl) ?_; rintro w1 g1 zg zm zs zb; replace HD : Sl _ := ⟨HD.out.new zg zm zb⟩; clear zg zm zs zb)
    | (refine wpList_box_new 3 rfl rfl 39 (.tmp 1) rfl #[.slice s.A r.n s.c, .slice s.B r.m s.d] rfl (fun _ => by kernel_rfl) ?_; rintro w2 g2 zg zm zs zb; replace HD : Sl _ := ⟨HD.out.new zg zm zb⟩; clear zg zm zs zb))
  have s0 := (HD.out.at_ 1 rfl).cell 0; have s1 := (HD.out.at_ 1 rfl).cell 1; have t0 := (HD.out.at_ 0 rfl).cell 0; have t1 := (HD.out.at_ 0 rfl).cell 1; simp at s0 s1 t0 t1; go_wp2_with fail; refine (H1.out _ HD.out.bl).mono ?_; rintro e w3 ⟨rfl, hb⟩; replace HD : Sl _ := ⟨HD.out.below hb⟩; clear hb s0 s1 t0 t1; have s1 := (HD.out.at_ 1 rfl).cell 1; have t1 := (HD.out.at_ 0 rfl).cell 1; simp at s1 t1; go_wp2_with fail; refine (H2.out _ HD.out.bl).mono ?_; rintro e w4 ⟨rfl, hb⟩; replace HD : Sl _ := ⟨HD.out.below hb⟩; go_wp2_with fail; go_ret; exact ⟨rfl, HD.out.bl⟩
end Go.Proofs.YtbaojmfkjpnfhaaDoor
namespace Go.Proofs.YtbaojmfkjpnfhaaDoor
set_option linter.unusedSimpArgs false
open Go.RowKit
set_option linter.unusedVariables false
section
variable {P : Program} {ops : Array Oper} {Q : Exit → Act → World → Prop} {md : Region.Mode} {S : World → Prop}
theorem wpAnyH_threem (i j k : Nat) {oi oj ok : Oper} {fuel : Nat} {listed : Array Bool} {a : Act} {w : World} (hi0 : ops.toList[i]? = some oi) (hj0 : ops.toList[j]? = some oj) (hk0 : ops.toList[k]? = some ok) (hr : Region.ready md ops listed = [i, j, k]) (hgi : oi.guard = none) (hgj : oj.guard = none) (hgk : ok.guard = none)
    (h1 : ∀ K' : Act → World → Prop, Shut (∀ a w, S w → (S w → wpAnyH P md ops Q S fuel (listed.setIfInBounds i true) a w) → K' a w) → Oper.wp P oi a w K' Q)
    (h2 : ∀ K' : Act → World → Prop, Shut (∀ a w, S w → (S w → wpAnyH P md ops Q S fuel (listed.setIfInBounds j true) a w) → K' a w) → Oper.wp P oj a w K' Q)
    (h3 : ∀ K' : Act → World → Prop, Shut (∀ a w, S w → (S w → wpAnyH P md ops Q S fuel (listed.setIfInBounds k true) a w) → K' a w) → Oper.wp P ok a w K' Q) : wpAnyH P md ops Q S (fuel + 1) listed a w :=
  have hi : ops[i]? = some oi := (by rw [← Array.getElem?_toList]; exact hi0); have hj : ops[j]? = some oj := (by rw [← Array.getElem?_toList]; exact hj0); have hk : ops[k]? = some ok := (by rw [← Array.getElem?_toList]; exact hk0)
  wpAnyH_ready hr (by simp) (AllReadyH.cons hi (fun K' hK => by
    have hw : Region.wanted oi (yielded ops a.tmps) = true := (by simp [Region.wanted, hgi]); rw [if_pos hw]
    exact h1 K' hK) (AllReadyH.cons hj (fun K' hK => by
    have hw : Region.wanted oj (yielded ops a.tmps) = true := (by simp [Region.wanted, hgj]); rw [if_pos hw]
    exact h2 K' hK) (AllReadyH.cons hk (fun K' hK => by
    have hw : Region.wanted ok (yielded ops a.tmps) = true := (by simp [Region.wanted, hgk]); rw [if_pos hw]
    exact h3 K' hK) AllReadyH.nil)))
end
theorem wp_newblk {P : Program} {Q : Exit → Act → World → Prop} {op : Oper} {a : Act} {w : World} {K : Act → World → Prop} (mk : Nat → Value) (ty : TypeId) (cells : Array Value)
    (hr : ∀ w : World, (execOp a.eval op).run P w = .ok (.value (mk w.heap.size)) (w.alloc (.cells cells ty)))
    (h : ∀ w' g, g = w.heap.size → Mv w.heap.size w w' → Below w.heap.size w w' → Blk w' g ty cells → K (a.put op.dst (mk g)) w') : Oper.wp P op a w K Q := by
  unfold Oper.wp; rw [hr w, Oper.upon_value]; exact h _ _ rfl (Mv.of_below ((Below.refl _ _).alloc (Nat.le_refl _) _)) ((Below.refl _ _).alloc (Nat.le_refl _) _) (Blk.new w ty cells)
section
variable (A1 A2 A3 A4 P1 P2 P3 a b c d e f : Option Addr)
theorem shE1 : atE (exO A1 A2 A3 A4 P1 P2 P3) (tbL a b c d) ⟨e, 1, 1, [1], none, 0, 0, []⟩ 2 = 0 := by kernel_rfl
theorem shL1 : atL (exO A1 A2 A3 A4 P1 P2 P3) (tbL a b c d) ⟨e, 1, 1, [1], none, 0, 0, []⟩ 2 RgV.l = [0, 1, 2] := by
  unfold atL; rw [if_pos (shE1 ..)]; show uniI [1, 0, 2] = [0, 1, 2]
  have hs : srtI [1, 0, 2] = [0, 1, 2] := by
    simp [srtI, List.mergeSort, List.MergeSort.Internal.splitInTwo, List.merge]
  have hc : Lib.compact ([0, 1, 2] : List Int) = [0, 1, 2] := (by kernel_rfl); unfold uniI; rw [hs, hc]
theorem shK1 : atL (exO A1 A2 A3 A4 P1 P2 P3) (tbL a b c d) ⟨e, 1, 1, [1], none, 0, 0, []⟩ 2 RgV.k = [0] := by kernel_rfl
theorem shN : neeF (exO A1 A2 A3 A4 P1 P2 P3) (tbL a b c d) ⟨e, 1, 1, [0], f, 1, 1, [0]⟩ = (2, 0) := by kernel_rfl
theorem shPE : planE [5, 1, 3, 4, 2] 2 = 0 := by kernel_rfl
theorem shPS : planS [5, 1, 3, 4, 2] 2 = 9 := by kernel_rfl
theorem shPG : planG [5, 1, 3, 4, 2] 2 = [[1, 4, 2], [3, 0]] := by kernel_rfl
theorem shTE : printE (exO A1 A2 A3 A4 P1 P2 P3) [⟨a, 2, 2, [0, 2], b, 1, 1, [0]⟩, ⟨none, 0, 0, [], none, 0, 0, []⟩] = 0 := by kernel_rfl
theorem shTX : printX (exO A1 A2 A3 A4 P1 P2 P3) [⟨a, 2, 2, [0, 2], b, 1, 1, [0]⟩, ⟨none, 0, 0, [], none, 0, 0, []⟩] = ⟨#[102, 114, 97, 109, 101, 32, 102, 108, 117, 116, 101, 56, 64, 103, 114, 101, 97, 116, 32, 98, 97, 115, 115, 64, 103, 114, 101, 97, 116, 32, 43, 111, 99, 116, 97, 118, 101, 10, 102, 114, 97, 109, 101, 10]⟩ := by kernel_rfl
end
theorem shAt (A1 A2 A3 A4 P1 P2 P3 : Option Addr) (T a b c d : Option Addr) (ga : Nat) (w : World) (hM : SpM w (exO A1 A2 A3 A4 P1 P2 P3)) (hT : TbM w T 3 3 (tbL a b c d)) (hB : Blk w ga 3 #[.int .i64 1]) :
    Calls Tryd.prog 9 #[.agg #[.slice A1 1 1, .slice A2 2 2, .slice A3 3 3, .slice A4 1 1], .agg #[.slice T 3 3], .int .i64 2, .agg #[.slice (some ⟨ga, 0, none⟩) 1 1, .slice none 0 0]] w fun e w' =>
      (∃ A n c B m d, e = .returned (.tuple #[.agg #[.slice A n c, .slice B m d], .int .i64 0]) ∧ RgM w' ⟨A, n, c, [0, 1, 2], B, m, d, [0]⟩) ∧ Below w.heap.size w w' := by
  refine (At_any (exO A1 A2 A3 A4 P1 P2 P3) T 3 3 (tbL a b c d) 2 ⟨some ⟨ga, 0, none⟩, 1, 1, [1], none, 0, 0, []⟩ w hM (exO_F ..) hT ⟨.of_blk hB rfl rfl, II.nil _ _, ⟨Nat.le_refl _, by show 1 ≤ maxLen; decide⟩, ⟨Nat.le_refl _, Nat.zero_le _⟩⟩ (by decide)).mono ?_; rintro e w' ⟨⟨A, n, c', B, m, d', h1, h2⟩, hb⟩; rw [shE1] at h1; rw [shL1, shK1] at h2; exact ⟨⟨A, n, c', B, m, d', h1, h2⟩, hb⟩
theorem shNeeded (A1 A2 A3 A4 P1 P2 P3 : Option Addr) (T a b c d : Option Addr) (ga gb : Nat) (w : World) (hM : SpM w (exO A1 A2 A3 A4 P1 P2 P3)) (hT : TbM w T 3 3 (tbL a b c d)) (hB : Blk w ga 3 #[.int .i64 0]) (hC : Blk w gb 3 #[.int .i64 0]) :
    Calls Tryd.prog 11 #[.agg #[.slice A1 1 1, .slice A2 2 2, .slice A3 3 3, .slice A4 1 1], .agg #[.slice T 3 3], .agg #[.slice (some ⟨ga, 0, none⟩) 1 1, .slice (some ⟨gb, 0, none⟩) 1 1]] w fun e w' =>
      e = .returned (.tuple #[.int .i64 2, .int .i64 0]) ∧ Below w.heap.size w w' := by
  refine (Needed_any (exO A1 A2 A3 A4 P1 P2 P3) T 3 3 (tbL a b c d) ⟨some ⟨ga, 0, none⟩, 1, 1, [0], some ⟨gb, 0, none⟩, 1, 1, [0]⟩ w hM (exO_F ..) hT ⟨.of_blk hB rfl rfl, .of_blk hC rfl rfl, ⟨Nat.le_refl _, by show 1 ≤ maxLen; decide⟩, ⟨Nat.le_refl _, by show 1 ≤ maxLen; decide⟩⟩).mono ?_; rintro e w' ⟨h1, hb⟩; rw [shN] at h1; exact ⟨h1, hb⟩
theorem shPlan (g : Nat) (w : World) (hB : Blk w g 2 #[.int .i64 5, .int .i64 1, .int .i64 3, .int .i64 4, .int .i64 2]) :
    Calls Tryd.prog 5 #[.slice (some ⟨g, 0, none⟩) 5 5, .int .i64 2] w fun e w' =>
      (∃ A c L, e = .returned (.tuple #[.slice A 2 c, .int .i64 9, .int .i64 0]) ∧ GG w' A 2 L ∧ L.map SlV.l = [[1, 4, 2], [3, 0]]) ∧ Below w.heap.size w w' := by
  refine (crPlan_any (some ⟨g, 0, none⟩) 5 5 [5, 1, 3, 4, 2] 2 w (.of_blk hB rfl rfl) (by decide) (by decide)).mono ?_; rintro e w' ⟨⟨A, k, c, L, h1, h2, h3⟩, hb⟩; rw [shPG] at h3; rw [shPS, shPE] at h1; have hk : k = 2 := (by rw [← h2.len]; have := congrArg List.length h3; rw [List.length_map] at this; exact this); subst hk; exact ⟨⟨A, c, L, h1, .of_og h2, h3⟩, hb⟩
theorem shPrint (A1 A2 A3 A4 P1 P2 P3 : Option Addr) (gt ga gb : Nat) (w : World) (hM : SpM w (exO A1 A2 A3 A4 P1 P2 P3)) (hB : Blk w ga 3 #[.int .i64 0, .int .i64 2]) (hC : Blk w gb 3 #[.int .i64 0]) (hT : Blk w gt 39 #[.slice (some ⟨ga, 0, none⟩) 2 2, .slice (some ⟨gb, 0, none⟩) 1 1, .slice none 0 0, .slice none 0 0]) :
    Calls Tryd.prog 12 #[.agg #[.slice A1 1 1, .slice A2 2 2, .slice A3 3 3, .slice A4 1 1], .slice (some ⟨gt, 0, none⟩) 2 2] w fun e w' =>
      e = .returned (.tuple #[.string ⟨#[102, 114, 97, 109, 101, 32, 102, 108, 117, 116, 101, 56, 64, 103, 114, 101, 97, 116, 32, 98, 97, 115, 115, 64, 103, 114, 101, 97, 116, 32, 43, 111, 99, 116, 97, 118, 101, 10, 102, 114, 97, 109, 101, 10]⟩, .int .i64 0]) ∧ Below w.heap.size w w' := by
  refine (crPrint_any (exO A1 A2 A3 A4 P1 P2 P3) (some ⟨gt, 0, none⟩) 2 2 [⟨some ⟨ga, 0, none⟩, 2, 2, [0, 2], some ⟨gb, 0, none⟩, 1, 1, [0]⟩, ⟨none, 0, 0, [], none, 0, 0, []⟩] w hM (exO_F ..) ⟨.of_blk hT (fun _ => rfl) rfl rfl, ⟨Nat.le_refl _, by decide⟩, fun y hy => ?_⟩).mono ?_
  · simp only [List.mem_cons, List.not_mem_nil, or_false] at hy; rcases hy with rfl | rfl
    · exact ⟨.of_blk hB rfl rfl, .of_blk hC rfl rfl, ⟨Nat.le_refl _, by show 2 ≤ maxLen; decide⟩, ⟨Nat.le_refl _, by show 1 ≤ maxLen; decide⟩⟩
    · exact ⟨II.nil _ _, II.nil _ _, ⟨Nat.le_refl _, Nat.zero_le _⟩, ⟨Nat.le_refl _, Nat.zero_le _⟩⟩
  · rintro e w' ⟨h1, hb⟩; rw [shTX, shTE] at h1; exact ⟨h1, hb⟩
end Go.Proofs.YtbaojmfkjpnfhaaDoor
namespace Go.Proofs.YtbaojmfkjpnfhaaDoor
set_option linter.unusedSimpArgs false
open Go.RowKit
set_option linter.unusedVariables false
theorem Lg.two {b w : World} {l : List (Nat × TypeId × Array Value)} (h : Lg b w l) (i j : Nat) {p q : Nat × TypeId × Array Value} (hp : l[i]? = some p) (hq : l[j]? = some q) (hij : i ≠ j) : Lg b w [p, q] := by
  have h1 := List.mem_of_getElem? hp; have h2 := List.mem_of_getElem? hq; refine ⟨⟨h.bl, fun r hr => ?_, fun r hr => ?_⟩, ?_⟩
  · simp only [List.mem_cons, List.not_mem_nil, or_false] at hr; rcases hr with rfl | rfl
    · exact h.ld.all _ h1
    · exact h.ld.all _ h2
  · simp only [List.mem_cons, List.not_mem_nil, or_false] at hr; rcases hr with rfl | rfl
    · exact h.ld.ge _ h1
    · exact h.ld.ge _ h2
  · have hne : p.1 ≠ q.1 := fun e => hij ((List.getElem?_inj (l := l.map Prod.fst) (by rw [List.length_map]; exact (List.getElem?_eq_some_iff.1 hp).1) h.nd).1 (by rw [List.getElem?_map, List.getElem?_map, hp, hq]; exact congrArg some e))
    simp [hne]
theorem two_rows (w : World) (t u : TypeId) (cs ds : Array Value) : Blk ((w.alloc (.cells cs t)).alloc (.cells ds u)) w.heap.size t cs ∧ Blk ((w.alloc (.cells cs t)).alloc (.cells ds u)) (w.heap.size + 1) u ds ∧ Below w.heap.size w ((w.alloc (.cells cs t)).alloc (.cells ds u)) := by
  have b1 : Below w.heap.size w (w.alloc (.cells cs t)) := (Below.refl _ _).alloc (Nat.le_refl _) _; have b2 : Below (w.alloc (.cells cs t)).heap.size (w.alloc (.cells cs t)) ((w.alloc (.cells cs t)).alloc (.cells ds u)) := (Below.refl _ _).alloc (Nat.le_refl _) _; have h2 := Blk.new (w.alloc (.cells cs t)) u ds; have e : (w.alloc (.cells cs t)).heap.size = w.heap.size + 1 := (by simp); rw [e] at h2; have h1 := Blk.new w t cs; exact ⟨h1.below b2 h1.lt, h2, b1.trans (b2.mono b1.size)⟩
theorem three_rows (w : World) (t u v : TypeId) (cs ds es : Array Value) : Blk (((w.alloc (.cells cs t)).alloc (.cells ds u)).alloc (.cells es v)) w.heap.size t cs ∧ Blk (((w.alloc (.cells cs t)).alloc (.cells ds u)).alloc (.cells es v)) (w.heap.size + 1) u ds ∧ Blk (((w.alloc (.cells cs t)).alloc (.cells ds u)).alloc (.cells es v)) (w.heap.size + 2) v es ∧ Below w.heap.size w (((w.alloc (.cells cs t)).alloc (.cells ds u)).alloc (.cells es v)) := by
  obtain ⟨h1, h2, h3⟩ := two_rows w t u cs ds; have b2 : Below ((w.alloc (.cells cs t)).alloc (.cells ds u)).heap.size ((w.alloc (.cells cs t)).alloc (.cells ds u)) (((w.alloc (.cells cs t)).alloc (.cells ds u)).alloc (.cells es v)) := (Below.refl _ _).alloc (Nat.le_refl _) _; have h4 := Blk.new ((w.alloc (.cells cs t)).alloc (.cells ds u)) v es; have e : ((w.alloc (.cells cs t)).alloc (.cells ds u)).heap.size = w.heap.size + 2 := (by simp); rw [e] at h4; exact ⟨h1.below b2 h1.lt, h2.below b2 h2.lt, h4, h3.trans (b2.mono h3.size)⟩
theorem II.mvR {w w' : World} {A : Option Addr} {n g : Nat} {l : List Int} {t : TypeId} {cs : Array Value} (h : II w A n l) (hB : Blk w g t cs) (hc : ∀ (j : Nat) (z : Int), cs[j]? ≠ some (.int .i64 z)) (hm : Mv g w w') : II w' A n l := by
  refine ⟨h.1, h.2.1, fun hn => ?_⟩; obtain ⟨ad, e, h1, h2⟩ := h.2.2 hn
  have hne : ad.block ≠ g := fun hg => by
    have hl : 0 < l.length := (by rw [h.1]; exact hn); have h3 := h2 0 (iv l[0]) (by rw [List.getElem?_map, List.getElem?_eq_getElem hl]; rfl); unfold World.cell? at h3; rw [block_of_add, hg, show w.heap[g]? = some (.cells cs t (0, 0)) from hB] at h3; simp only [] at h3
    split at h3
    · cases h3
    · exact hc _ _ h3
  refine ⟨ad, e, Nat.lt_of_lt_of_le h1 hm.size, fun j u hu => ?_⟩; rw [← h2 j u hu]; exact World.cell?_of_block (by rw [block_of_add]; exact hm.block _ h1 hne)
theorem RgM.mvR {w w' : World} {g : Nat} {r : RgV} {t : TypeId} (h : RgM w r) (hB : Blk w g t #[.slice none 0 0, .slice none 0 0]) (hm : Mv g w w') : RgM w' r := by
  have hc : ∀ (j : Nat) (z : Int), (#[.slice none 0 0, .slice none 0 0] : Array Value)[j]? ≠ some (.int .i64 z) := by
    intro j z e; rcases j with _ | _ | j
    · cases e
    · cases e
    · cases e
  exact ⟨h.s.mvR hB hc hm, h.c.mvR hB hc hm, h.sc, h.cc⟩
set_option maxHeartbeats 12800000 in
set_option maxRecDepth 100000 in
theorem shown_any (w : World) : Calls Tryd.prog 4 #[] w fun e w' => e = .returned (.bool true) ∧ Below w.heap.size w w' := by
  go_enter Tryd.func4, Tryd.ntmps4; go_wp2_with fail; refine (example_any _).mono ?_; rintro e wE ⟨⟨A1, A2, A3, A4, P1, P2, P3, rfl, hm⟩, hb⟩; have HBE : Sl (Below w.heap.size w wE) := ⟨hb⟩; have HM : Sl _ := ⟨hm⟩; have HD : Sl (Lg wE wE []) := ⟨Lg.nil wE⟩; clear hm hb
  go_upto_region 2 with ((with_reducible show wpList _ _ _ _ _ _); first
    | (refine wpList_alloc_new 1 rfl rfl 35 rfl #[.slice none 0 0, .slice none 0 0, .slice none 0 0, .slice none 0 0] alloc_spec ?_; rintro w1 g1 zg zm zs zb; replace HD : Sl _ := ⟨HD.out.new zg zm zb⟩; clear zg zm zs zb)
    | (refine wpList_store_whole rfl 35 (.tmp 1) (.tmp 11) rfl g1 #[.slice A1 1 1, .slice A2 2 2, .slice A3 3 3, .slice A4 1 1] rfl rfl 35 _ (HD.out.at_ 0 rfl) rfl (by kernel_rfl) (by simp [Value.oneCell']) ?_; rintro w2 zm zs zb; replace HD : Sl _ := ⟨HD.out.upd zm zb⟩; clear zm zs zb))
  simp only [Act.put, sS0, sS1, sS2]
  go_cut [2, 3] from 13 to 19 (fun s2 s3 wx => ∃ (g2 : Nat) (A B : Option Addr) (n c m d : Nat), s2 = .pointer (some ⟨g2, 0, none⟩) ∧ s3 = .int .i64 0 ∧ Sl (Lg wE wx [(g2, 39, #[.slice A n c, .slice B m d]), (g1, 35, #[.slice A1 1 1, .slice A2 2 2, .slice A3 3 3, .slice A4 1 1])] ∧ RgM wx ⟨A, n, c, [0, 1, 2], B, m, d, [0]⟩))
  case first =>
    have hS0 : Below wE.heap.size wE w2.drew ∧ Blk w2.drew g1 35 #[.slice A1 1 1, .slice A2 2 2, .slice A3 3 3, .slice A4 1 1] := ⟨HD.out.bl.trans ((below_drewN (Below.refl _ _) 1).mono HD.out.bl.size), HD.out.at_ 0 rfl⟩; replace HD : Sl (Lg wE w2.drew [(g1, 35, #[.slice A1 1 1, .slice A2 2 2, .slice A3 3 3, .slice A4 1 1])]) := ⟨HD.out.below (below_drewN (Below.refl _ _) 1)⟩; have hm := hS0; refine wp_region_held_drew (S := fun w' => Below wE.heap.size wE w' ∧ Blk w' g1 35 #[.slice A1 1 1, .slice A2 2 2, .slice A3 3 3, .slice A4 1 1]) (by kernel_rfl) hm (fun hHeld => ?_); clear hm; refine wpAnyH_load 0 35 (.tmp 1) rfl rfl rfl g1 0 rfl #[.slice A1 1 1, .slice A2 2 2, .slice A3 3 3, .slice A4 1 1] _ (fun w' h => by have := World.rangeAt_of_block h.2 0 4; exact this) Tryd.underlying35 rfl (by kernel_rfl) (by kernel_rfl) (by kernel_rfl) (by kernel_rfl) (fun _ _ _ h => h) (by assumption) ?_; simp only [Act.put, sS0, sS1, sS2]; refine wpAnyH_threem 1 2 8 rfl rfl rfl (by kernel_rfl) rfl rfl rfl (fun K hK => ?_) (fun K hK => ?_) (fun K hK => ?_) 
    · skip; go_simp; go_at_call 10
      (with_reducible refine (table_any _).mono ?_)
      rintro e w10 ⟨⟨T, a, b, c, d, rfl, ht⟩, hb⟩; replace HD : Sl _ := ⟨HD.out.below hb⟩; have HT : Sl _ := ⟨ht⟩; clear hb ht; refine hK.out _ _ ⟨HD.out.bl, HD.out.at_ 0 rfl⟩ (fun hHeld => ?_); clear hK K
      (try simp only [Act.put, sS0, sS1, sS2])
      refine wpAnyH_twom 2 8 rfl rfl (by kernel_rfl) rfl rfl (fun K hK => ?_) (fun K hK => ?_) 
      · skip; refine wp_newblk (fun g => .slice (some ⟨g, 0, none⟩) 1 1) 3 #[.int .i64 1] (fun _ => by kernel_rfl) ?_; rintro w11 ga zg zm zw zb; replace HD : Sl _ := ⟨HD.out.new zg zm zb⟩; replace HT : Sl _ := ⟨HT.out.below zw⟩; clear zg zm zw zb; refine hK.out _ _ ⟨HD.out.bl, HD.out.at_ 1 rfl⟩ (fun hHeld => ?_); clear hK K
        (try simp only [Act.put, sS0, sS1, sS2])
        refine wpAnyH_pure 3 (v := .agg #[.slice (some ⟨ga, 0, none⟩) 1 1, .slice none 0 0]) rfl (by kernel_rfl) (by kernel_rfl) (by kernel_rfl) (fun _ _ _ h => h) rfl (fun _ => by go_simp) (by assumption) ?_; simp only [Act.put, sS0, sS1, sS2]; refine wpAnyH_twom 4 8 rfl rfl (by kernel_rfl) rfl rfl (fun K hK => ?_) (fun K hK => ?_) 
        · skip; go_simp; go_at_call 9
          (with_reducible refine (shAt A1 A2 A3 A4 P1 P2 P3 T a b c d ga _ (HM.out.below HD.out.bl) HT.out (HD.out.at_ 0 rfl)).mono ?_)
          rintro e w12 ⟨⟨A, n, c, B, m, d', rfl, hr⟩, hb⟩; replace HD : Sl _ := ⟨HD.out.below hb⟩; have HR : Sl _ := ⟨hr⟩; clear hb hr HT; refine hK.out _ _ ⟨HD.out.bl, HD.out.at_ 1 rfl⟩ (fun hHeld => ?_); clear hK K
          (try simp only [Act.put, sS0, sS1, sS2])
          refine wpAnyH_pure 5 (v := .tuple #[.agg #[.slice A n c, .slice B m d'], .int .i64 0]) rfl (by kernel_rfl) (by kernel_rfl) (by kernel_rfl) (fun _ _ _ h => h) rfl (fun _ => rfl) (by assumption) ?_; simp only [Act.put, sS0, sS1, sS2]; refine wpAnyH_pure 6 (v := .agg #[.slice A n c, .slice B m d']) rfl (by kernel_rfl) (by kernel_rfl) (by kernel_rfl) (fun _ _ _ h => h) rfl (fun _ => by go_simp) (by assumption) ?_; simp only [Act.put, sS0, sS1, sS2]; refine wpAnyH_pure 7 (v := .int .i64 0) rfl (by kernel_rfl) (by kernel_rfl) (by kernel_rfl) (fun _ _ _ h => h) rfl (fun _ => by go_simp) (by assumption) ?_; simp only [Act.put, sS0, sS1, sS2]; refine wpAnyH_one 8 rfl (by kernel_rfl) rfl (fun K hK => ?_); refine wp_newblk (fun g => .pointer (some ⟨g, 0, none⟩)) 39 #[.slice none 0 0, .slice none 0 0] (fun _ => by kernel_rfl) ?_; rintro w13 g2 zg zm zw zb; replace HD : Sl _ := ⟨HD.out.new zg zm zb⟩; replace HR : Sl _ := ⟨HR.out.below zw⟩; clear zg zm zw zb; refine hK.out _ _ ⟨HD.out.bl, HD.out.at_ 2 rfl⟩ (fun hHeld => ?_); clear hK K
          (try simp only [Act.put, sS0, sS1, sS2])
          refine wpAnyH_one 9 rfl (by kernel_rfl) rfl (fun K hK => ?_); refine wp_store_partm 39 (.tmp 2) (.tmp 18) rfl g2 0 #[.slice A n c, .slice B m d'] rfl rfl 39 _ #[.slice A n c, .slice B m d'] (HD.out.at_ 0 rfl) (by simp) (putA_all _ _ rfl) (by kernel_rfl) (by simp [Value.oneCell']) ?_; rintro w14 zm zs zb; replace HR : Sl _ := ⟨HR.out.mvR (HD.out.at_ 0 rfl) zm⟩; replace HD : Sl _ := ⟨HD.out.set 0 rfl zm zb⟩; clear zm zs zb; refine hK.out _ _ ⟨HD.out.bl, HD.out.at_ 2 rfl⟩ (fun hHeld => ?_); clear hK K
          (try simp only [Act.put, sS0, sS1, sS2])
          refine wpAnyH_pure 10 (v := .int .i64 0) rfl (by kernel_rfl) (by kernel_rfl) (by kernel_rfl) (fun _ _ _ h => h) rfl (fun _ => rfl) (by assumption) ?_; simp only [Act.put, sS0, sS1, sS2]; refine wpAnyH_done (by kernel_rfl) ?_ _
          (try go_wp2_with fail)
          go_meet
          exact ⟨g2, A, B, n, c, m, d', rfl, rfl, ⟨HD.out.two 0 2 rfl rfl (by decide), HR.out⟩⟩
        · skip; refine wp_newblk (fun g => .pointer (some ⟨g, 0, none⟩)) 39 #[.slice none 0 0, .slice none 0 0] (fun _ => by kernel_rfl) ?_; rintro w15 g2 zg zm zw zb; replace HD : Sl _ := ⟨HD.out.new zg zm zb⟩; replace HT : Sl _ := ⟨HT.out.below zw⟩; clear zg zm zw zb; refine hK.out _ _ ⟨HD.out.bl, HD.out.at_ 2 rfl⟩ (fun hHeld => ?_); clear hK K
          (try simp only [Act.put, sS0, sS1, sS2])
          refine wpAnyH_one 4 rfl (by kernel_rfl) rfl (fun K hK => ?_); go_simp; go_at_call 9
          (with_reducible refine (shAt A1 A2 A3 A4 P1 P2 P3 T a b c d ga _ (HM.out.below HD.out.bl) HT.out (HD.out.at_ 1 rfl)).mono ?_)
          rintro e w16 ⟨⟨A, n, c, B, m, d', rfl, hr⟩, hb⟩; replace HD : Sl _ := ⟨HD.out.below hb⟩; have HR : Sl _ := ⟨hr⟩; clear hb hr HT; refine hK.out _ _ ⟨HD.out.bl, HD.out.at_ 2 rfl⟩ (fun hHeld => ?_); clear hK K
          (try simp only [Act.put, sS0, sS1, sS2])
          refine wpAnyH_pure 5 (v := .tuple #[.agg #[.slice A n c, .slice B m d'], .int .i64 0]) rfl (by kernel_rfl) (by kernel_rfl) (by kernel_rfl) (fun _ _ _ h => h) rfl (fun _ => rfl) (by assumption) ?_; simp only [Act.put, sS0, sS1, sS2]; refine wpAnyH_pure 6 (v := .agg #[.slice A n c, .slice B m d']) rfl (by kernel_rfl) (by kernel_rfl) (by kernel_rfl) (fun _ _ _ h => h) rfl (fun _ => by go_simp) (by assumption) ?_; simp only [Act.put, sS0, sS1, sS2]; refine wpAnyH_pure 7 (v := .int .i64 0) rfl (by kernel_rfl) (by kernel_rfl) (by kernel_rfl) (fun _ _ _ h => h) rfl (fun _ => by go_simp) (by assumption) ?_; simp only [Act.put, sS0, sS1, sS2]; refine wpAnyH_one 9 rfl (by kernel_rfl) rfl (fun K hK => ?_); refine wp_store_partm 39 (.tmp 2) (.tmp 18) rfl g2 0 #[.slice A n c, .slice B m d'] rfl rfl 39 _ #[.slice A n c, .slice B m d'] (HD.out.at_ 0 rfl) (by simp) (putA_all _ _ rfl) (by kernel_rfl) (by simp [Value.oneCell']) ?_; rintro w17 zm zs zb; replace HR : Sl _ := ⟨HR.out.mvR (HD.out.at_ 0 rfl) zm⟩; replace HD : Sl _ := ⟨HD.out.set 0 rfl zm zb⟩; clear zm zs zb; refine hK.out _ _ ⟨HD.out.bl, HD.out.at_ 2 rfl⟩ (fun hHeld => ?_); clear hK K
          (try simp only [Act.put, sS0, sS1, sS2])
          refine wpAnyH_pure 10 (v := .int .i64 0) rfl (by kernel_rfl) (by kernel_rfl) (by kernel_rfl) (fun _ _ _ h => h) rfl (fun _ => rfl) (by assumption) ?_; simp only [Act.put, sS0, sS1, sS2]; refine wpAnyH_done (by kernel_rfl) ?_ _
          (try go_wp2_with fail)
          go_meet
          exact ⟨g2, A, B, n, c, m, d', rfl, rfl, ⟨HD.out.two 0 2 rfl rfl (by decide), HR.out⟩⟩
      · skip; refine wp_newblk (fun g => .pointer (some ⟨g, 0, none⟩)) 39 #[.slice none 0 0, .slice none 0 0] (fun _ => by kernel_rfl) ?_; rintro w18 g2 zg zm zw zb; replace HD : Sl _ := ⟨HD.out.new zg zm zb⟩; replace HT : Sl _ := ⟨HT.out.below zw⟩; clear zg zm zw zb; refine hK.out _ _ ⟨HD.out.bl, HD.out.at_ 1 rfl⟩ (fun hHeld => ?_); clear hK K
        (try simp only [Act.put, sS0, sS1, sS2])
        refine wpAnyH_one 2 rfl (by kernel_rfl) rfl (fun K hK => ?_); refine wp_newblk (fun g => .slice (some ⟨g, 0, none⟩) 1 1) 3 #[.int .i64 1] (fun _ => by kernel_rfl) ?_; rintro w19 ga zg zm zw zb; replace HD : Sl _ := ⟨HD.out.new zg zm zb⟩; replace HT : Sl _ := ⟨HT.out.below zw⟩; clear zg zm zw zb; refine hK.out _ _ ⟨HD.out.bl, HD.out.at_ 2 rfl⟩ (fun hHeld => ?_); clear hK K
        (try simp only [Act.put, sS0, sS1, sS2])
        refine wpAnyH_pure 3 (v := .agg #[.slice (some ⟨ga, 0, none⟩) 1 1, .slice none 0 0]) rfl (by kernel_rfl) (by kernel_rfl) (by kernel_rfl) (fun _ _ _ h => h) rfl (fun _ => by go_simp) (by assumption) ?_; simp only [Act.put, sS0, sS1, sS2]; refine wpAnyH_one 4 rfl (by kernel_rfl) rfl (fun K hK => ?_); go_simp; go_at_call 9
        (with_reducible refine (shAt A1 A2 A3 A4 P1 P2 P3 T a b c d ga _ (HM.out.below HD.out.bl) HT.out (HD.out.at_ 0 rfl)).mono ?_)
        rintro e w20 ⟨⟨A, n, c, B, m, d', rfl, hr⟩, hb⟩; replace HD : Sl _ := ⟨HD.out.below hb⟩; have HR : Sl _ := ⟨hr⟩; clear hb hr HT; refine hK.out _ _ ⟨HD.out.bl, HD.out.at_ 2 rfl⟩ (fun hHeld => ?_); clear hK K
        (try simp only [Act.put, sS0, sS1, sS2])
        refine wpAnyH_pure 5 (v := .tuple #[.agg #[.slice A n c, .slice B m d'], .int .i64 0]) rfl (by kernel_rfl) (by kernel_rfl) (by kernel_rfl) (fun _ _ _ h => h) rfl (fun _ => rfl) (by assumption) ?_; simp only [Act.put, sS0, sS1, sS2]; refine wpAnyH_pure 6 (v := .agg #[.slice A n c, .slice B m d']) rfl (by kernel_rfl) (by kernel_rfl) (by kernel_rfl) (fun _ _ _ h => h) rfl (fun _ => by go_simp) (by assumption) ?_; simp only [Act.put, sS0, sS1, sS2]; refine wpAnyH_pure 7 (v := .int .i64 0) rfl (by kernel_rfl) (by kernel_rfl) (by kernel_rfl) (fun _ _ _ h => h) rfl (fun _ => by go_simp) (by assumption) ?_; simp only [Act.put, sS0, sS1, sS2]; refine wpAnyH_one 9 rfl (by kernel_rfl) rfl (fun K hK => ?_); refine wp_store_partm 39 (.tmp 2) (.tmp 18) rfl g2 0 #[.slice A n c, .slice B m d'] rfl rfl 39 _ #[.slice A n c, .slice B m d'] (HD.out.at_ 1 rfl) (by simp) (putA_all _ _ rfl) (by kernel_rfl) (by simp [Value.oneCell']) ?_; rintro w21 zm zs zb; replace HR : Sl _ := ⟨HR.out.mvR (HD.out.at_ 1 rfl) zm⟩; replace HD : Sl _ := ⟨HD.out.set 1 rfl zm zb⟩; clear zm zs zb; refine hK.out _ _ ⟨HD.out.bl, HD.out.at_ 2 rfl⟩ (fun hHeld => ?_); clear hK K
        (try simp only [Act.put, sS0, sS1, sS2])
        refine wpAnyH_pure 10 (v := .int .i64 0) rfl (by kernel_rfl) (by kernel_rfl) (by kernel_rfl) (fun _ _ _ h => h) rfl (fun _ => rfl) (by assumption) ?_; simp only [Act.put, sS0, sS1, sS2]; refine wpAnyH_done (by kernel_rfl) ?_ _
        (try go_wp2_with fail)
        go_meet
        exact ⟨g2, A, B, n, c, m, d', rfl, rfl, ⟨HD.out.two 1 2 rfl rfl (by decide), HR.out⟩⟩
    · skip; refine wp_newblk (fun g => .slice (some ⟨g, 0, none⟩) 1 1) 3 #[.int .i64 1] (fun _ => by kernel_rfl) ?_; rintro w22 ga zg zm zw zb; replace HD : Sl _ := ⟨HD.out.new zg zm zb⟩; clear zg zm zw zb; refine hK.out _ _ ⟨HD.out.bl, HD.out.at_ 1 rfl⟩ (fun hHeld => ?_); clear hK K
      (try simp only [Act.put, sS0, sS1, sS2])
      refine wpAnyH_pure 3 (v := .agg #[.slice (some ⟨ga, 0, none⟩) 1 1, .slice none 0 0]) rfl (by kernel_rfl) (by kernel_rfl) (by kernel_rfl) (fun _ _ _ h => h) rfl (fun _ => by go_simp) (by assumption) ?_; simp only [Act.put, sS0, sS1, sS2]; refine wpAnyH_twom 1 8 rfl rfl (by kernel_rfl) rfl rfl (fun K hK => ?_) (fun K hK => ?_) 
      · skip; go_simp; go_at_call 10
        (with_reducible refine (table_any _).mono ?_)
        rintro e w23 ⟨⟨T, a, b, c, d, rfl, ht⟩, hb⟩; replace HD : Sl _ := ⟨HD.out.below hb⟩; have HT : Sl _ := ⟨ht⟩; clear hb ht; refine hK.out _ _ ⟨HD.out.bl, HD.out.at_ 1 rfl⟩ (fun hHeld => ?_); clear hK K
        (try simp only [Act.put, sS0, sS1, sS2])
        refine wpAnyH_twom 4 8 rfl rfl (by kernel_rfl) rfl rfl (fun K hK => ?_) (fun K hK => ?_) 
        · skip; go_simp; go_at_call 9
          (with_reducible refine (shAt A1 A2 A3 A4 P1 P2 P3 T a b c d ga _ (HM.out.below HD.out.bl) HT.out (HD.out.at_ 0 rfl)).mono ?_)
          rintro e w24 ⟨⟨A, n, c, B, m, d', rfl, hr⟩, hb⟩; replace HD : Sl _ := ⟨HD.out.below hb⟩; have HR : Sl _ := ⟨hr⟩; clear hb hr HT; refine hK.out _ _ ⟨HD.out.bl, HD.out.at_ 1 rfl⟩ (fun hHeld => ?_); clear hK K
          (try simp only [Act.put, sS0, sS1, sS2])
          refine wpAnyH_pure 5 (v := .tuple #[.agg #[.slice A n c, .slice B m d'], .int .i64 0]) rfl (by kernel_rfl) (by kernel_rfl) (by kernel_rfl) (fun _ _ _ h => h) rfl (fun _ => rfl) (by assumption) ?_; simp only [Act.put, sS0, sS1, sS2]; refine wpAnyH_pure 6 (v := .agg #[.slice A n c, .slice B m d']) rfl (by kernel_rfl) (by kernel_rfl) (by kernel_rfl) (fun _ _ _ h => h) rfl (fun _ => by go_simp) (by assumption) ?_; simp only [Act.put, sS0, sS1, sS2]; refine wpAnyH_pure 7 (v := .int .i64 0) rfl (by kernel_rfl) (by kernel_rfl) (by kernel_rfl) (fun _ _ _ h => h) rfl (fun _ => by go_simp) (by assumption) ?_; simp only [Act.put, sS0, sS1, sS2]; refine wpAnyH_one 8 rfl (by kernel_rfl) rfl (fun K hK => ?_); refine wp_newblk (fun g => .pointer (some ⟨g, 0, none⟩)) 39 #[.slice none 0 0, .slice none 0 0] (fun _ => by kernel_rfl) ?_; rintro w25 g2 zg zm zw zb; replace HD : Sl _ := ⟨HD.out.new zg zm zb⟩; replace HR : Sl _ := ⟨HR.out.below zw⟩; clear zg zm zw zb; refine hK.out _ _ ⟨HD.out.bl, HD.out.at_ 2 rfl⟩ (fun hHeld => ?_); clear hK K
          (try simp only [Act.put, sS0, sS1, sS2])
          refine wpAnyH_one 9 rfl (by kernel_rfl) rfl (fun K hK => ?_); refine wp_store_partm 39 (.tmp 2) (.tmp 18) rfl g2 0 #[.slice A n c, .slice B m d'] rfl rfl 39 _ #[.slice A n c, .slice B m d'] (HD.out.at_ 0 rfl) (by simp) (putA_all _ _ rfl) (by kernel_rfl) (by simp [Value.oneCell']) ?_; rintro w26 zm zs zb; replace HR : Sl _ := ⟨HR.out.mvR (HD.out.at_ 0 rfl) zm⟩; replace HD : Sl _ := ⟨HD.out.set 0 rfl zm zb⟩; clear zm zs zb; refine hK.out _ _ ⟨HD.out.bl, HD.out.at_ 2 rfl⟩ (fun hHeld => ?_); clear hK K
          (try simp only [Act.put, sS0, sS1, sS2])
          refine wpAnyH_pure 10 (v := .int .i64 0) rfl (by kernel_rfl) (by kernel_rfl) (by kernel_rfl) (fun _ _ _ h => h) rfl (fun _ => rfl) (by assumption) ?_; simp only [Act.put, sS0, sS1, sS2]; refine wpAnyH_done (by kernel_rfl) ?_ _
          (try go_wp2_with fail)
          go_meet
          exact ⟨g2, A, B, n, c, m, d', rfl, rfl, ⟨HD.out.two 0 2 rfl rfl (by decide), HR.out⟩⟩
        · skip; refine wp_newblk (fun g => .pointer (some ⟨g, 0, none⟩)) 39 #[.slice none 0 0, .slice none 0 0] (fun _ => by kernel_rfl) ?_; rintro w27 g2 zg zm zw zb; replace HD : Sl _ := ⟨HD.out.new zg zm zb⟩; replace HT : Sl _ := ⟨HT.out.below zw⟩; clear zg zm zw zb; refine hK.out _ _ ⟨HD.out.bl, HD.out.at_ 2 rfl⟩ (fun hHeld => ?_); clear hK K
          (try simp only [Act.put, sS0, sS1, sS2])
          refine wpAnyH_one 4 rfl (by kernel_rfl) rfl (fun K hK => ?_); go_simp; go_at_call 9
          (with_reducible refine (shAt A1 A2 A3 A4 P1 P2 P3 T a b c d ga _ (HM.out.below HD.out.bl) HT.out (HD.out.at_ 1 rfl)).mono ?_)
          rintro e w28 ⟨⟨A, n, c, B, m, d', rfl, hr⟩, hb⟩; replace HD : Sl _ := ⟨HD.out.below hb⟩; have HR : Sl _ := ⟨hr⟩; clear hb hr HT; refine hK.out _ _ ⟨HD.out.bl, HD.out.at_ 2 rfl⟩ (fun hHeld => ?_); clear hK K
          (try simp only [Act.put, sS0, sS1, sS2])
          refine wpAnyH_pure 5 (v := .tuple #[.agg #[.slice A n c, .slice B m d'], .int .i64 0]) rfl (by kernel_rfl) (by kernel_rfl) (by kernel_rfl) (fun _ _ _ h => h) rfl (fun _ => rfl) (by assumption) ?_; simp only [Act.put, sS0, sS1, sS2]; refine wpAnyH_pure 6 (v := .agg #[.slice A n c, .slice B m d']) rfl (by kernel_rfl) (by kernel_rfl) (by kernel_rfl) (fun _ _ _ h => h) rfl (fun _ => by go_simp) (by assumption) ?_; simp only [Act.put, sS0, sS1, sS2]; refine wpAnyH_pure 7 (v := .int .i64 0) rfl (by kernel_rfl) (by kernel_rfl) (by kernel_rfl) (fun _ _ _ h => h) rfl (fun _ => by go_simp) (by assumption) ?_; simp only [Act.put, sS0, sS1, sS2]; refine wpAnyH_one 9 rfl (by kernel_rfl) rfl (fun K hK => ?_); refine wp_store_partm 39 (.tmp 2) (.tmp 18) rfl g2 0 #[.slice A n c, .slice B m d'] rfl rfl 39 _ #[.slice A n c, .slice B m d'] (HD.out.at_ 0 rfl) (by simp) (putA_all _ _ rfl) (by kernel_rfl) (by simp [Value.oneCell']) ?_; rintro w29 zm zs zb; replace HR : Sl _ := ⟨HR.out.mvR (HD.out.at_ 0 rfl) zm⟩; replace HD : Sl _ := ⟨HD.out.set 0 rfl zm zb⟩; clear zm zs zb; refine hK.out _ _ ⟨HD.out.bl, HD.out.at_ 2 rfl⟩ (fun hHeld => ?_); clear hK K
          (try simp only [Act.put, sS0, sS1, sS2])
          refine wpAnyH_pure 10 (v := .int .i64 0) rfl (by kernel_rfl) (by kernel_rfl) (by kernel_rfl) (fun _ _ _ h => h) rfl (fun _ => rfl) (by assumption) ?_; simp only [Act.put, sS0, sS1, sS2]; refine wpAnyH_done (by kernel_rfl) ?_ _
          (try go_wp2_with fail)
          go_meet
          exact ⟨g2, A, B, n, c, m, d', rfl, rfl, ⟨HD.out.two 0 2 rfl rfl (by decide), HR.out⟩⟩
      · skip; refine wp_newblk (fun g => .pointer (some ⟨g, 0, none⟩)) 39 #[.slice none 0 0, .slice none 0 0] (fun _ => by kernel_rfl) ?_; rintro w30 g2 zg zm zw zb; replace HD : Sl _ := ⟨HD.out.new zg zm zb⟩; clear zg zm zw zb; refine hK.out _ _ ⟨HD.out.bl, HD.out.at_ 2 rfl⟩ (fun hHeld => ?_); clear hK K
        (try simp only [Act.put, sS0, sS1, sS2])
        refine wpAnyH_one 1 rfl (by kernel_rfl) rfl (fun K hK => ?_); go_simp; go_at_call 10
        (with_reducible refine (table_any _).mono ?_)
        rintro e w31 ⟨⟨T, a, b, c, d, rfl, ht⟩, hb⟩; replace HD : Sl _ := ⟨HD.out.below hb⟩; have HT : Sl _ := ⟨ht⟩; clear hb ht; refine hK.out _ _ ⟨HD.out.bl, HD.out.at_ 2 rfl⟩ (fun hHeld => ?_); clear hK K
        (try simp only [Act.put, sS0, sS1, sS2])
        refine wpAnyH_one 4 rfl (by kernel_rfl) rfl (fun K hK => ?_); go_simp; go_at_call 9
        (with_reducible refine (shAt A1 A2 A3 A4 P1 P2 P3 T a b c d ga _ (HM.out.below HD.out.bl) HT.out (HD.out.at_ 1 rfl)).mono ?_)
        rintro e w32 ⟨⟨A, n, c, B, m, d', rfl, hr⟩, hb⟩; replace HD : Sl _ := ⟨HD.out.below hb⟩; have HR : Sl _ := ⟨hr⟩; clear hb hr HT; refine hK.out _ _ ⟨HD.out.bl, HD.out.at_ 2 rfl⟩ (fun hHeld => ?_); clear hK K
        (try simp only [Act.put, sS0, sS1, sS2])
        refine wpAnyH_pure 5 (v := .tuple #[.agg #[.slice A n c, .slice B m d'], .int .i64 0]) rfl (by kernel_rfl) (by kernel_rfl) (by kernel_rfl) (fun _ _ _ h => h) rfl (fun _ => rfl) (by assumption) ?_; simp only [Act.put, sS0, sS1, sS2]; refine wpAnyH_pure 6 (v := .agg #[.slice A n c, .slice B m d']) rfl (by kernel_rfl) (by kernel_rfl) (by kernel_rfl) (fun _ _ _ h => h) rfl (fun _ => by go_simp) (by assumption) ?_; simp only [Act.put, sS0, sS1, sS2]; refine wpAnyH_pure 7 (v := .int .i64 0) rfl (by kernel_rfl) (by kernel_rfl) (by kernel_rfl) (fun _ _ _ h => h) rfl (fun _ => by go_simp) (by assumption) ?_; simp only [Act.put, sS0, sS1, sS2]; refine wpAnyH_one 9 rfl (by kernel_rfl) rfl (fun K hK => ?_); refine wp_store_partm 39 (.tmp 2) (.tmp 18) rfl g2 0 #[.slice A n c, .slice B m d'] rfl rfl 39 _ #[.slice A n c, .slice B m d'] (HD.out.at_ 0 rfl) (by simp) (putA_all _ _ rfl) (by kernel_rfl) (by simp [Value.oneCell']) ?_; rintro w33 zm zs zb; replace HR : Sl _ := ⟨HR.out.mvR (HD.out.at_ 0 rfl) zm⟩; replace HD : Sl _ := ⟨HD.out.set 0 rfl zm zb⟩; clear zm zs zb; refine hK.out _ _ ⟨HD.out.bl, HD.out.at_ 2 rfl⟩ (fun hHeld => ?_); clear hK K
        (try simp only [Act.put, sS0, sS1, sS2])
        refine wpAnyH_pure 10 (v := .int .i64 0) rfl (by kernel_rfl) (by kernel_rfl) (by kernel_rfl) (fun _ _ _ h => h) rfl (fun _ => rfl) (by assumption) ?_; simp only [Act.put, sS0, sS1, sS2]; refine wpAnyH_done (by kernel_rfl) ?_ _
        (try go_wp2_with fail)
        go_meet
        exact ⟨g2, A, B, n, c, m, d', rfl, rfl, ⟨HD.out.two 0 2 rfl rfl (by decide), HR.out⟩⟩
    · skip; refine wp_newblk (fun g => .pointer (some ⟨g, 0, none⟩)) 39 #[.slice none 0 0, .slice none 0 0] (fun _ => by kernel_rfl) ?_; rintro w34 g2 zg zm zw zb; replace HD : Sl _ := ⟨HD.out.new zg zm zb⟩; clear zg zm zw zb; refine hK.out _ _ ⟨HD.out.bl, HD.out.at_ 1 rfl⟩ (fun hHeld => ?_); clear hK K
      (try simp only [Act.put, sS0, sS1, sS2])
      refine wpAnyH_twom 1 2 rfl rfl (by kernel_rfl) rfl rfl (fun K hK => ?_) (fun K hK => ?_) 
      · skip; go_simp; go_at_call 10
        (with_reducible refine (table_any _).mono ?_)
        rintro e w35 ⟨⟨T, a, b, c, d, rfl, ht⟩, hb⟩; replace HD : Sl _ := ⟨HD.out.below hb⟩; have HT : Sl _ := ⟨ht⟩; clear hb ht; refine hK.out _ _ ⟨HD.out.bl, HD.out.at_ 1 rfl⟩ (fun hHeld => ?_); clear hK K
        (try simp only [Act.put, sS0, sS1, sS2])
        refine wpAnyH_one 2 rfl (by kernel_rfl) rfl (fun K hK => ?_); refine wp_newblk (fun g => .slice (some ⟨g, 0, none⟩) 1 1) 3 #[.int .i64 1] (fun _ => by kernel_rfl) ?_; rintro w36 ga zg zm zw zb; replace HD : Sl _ := ⟨HD.out.new zg zm zb⟩; replace HT : Sl _ := ⟨HT.out.below zw⟩; clear zg zm zw zb; refine hK.out _ _ ⟨HD.out.bl, HD.out.at_ 2 rfl⟩ (fun hHeld => ?_); clear hK K
        (try simp only [Act.put, sS0, sS1, sS2])
        refine wpAnyH_pure 3 (v := .agg #[.slice (some ⟨ga, 0, none⟩) 1 1, .slice none 0 0]) rfl (by kernel_rfl) (by kernel_rfl) (by kernel_rfl) (fun _ _ _ h => h) rfl (fun _ => by go_simp) (by assumption) ?_; simp only [Act.put, sS0, sS1, sS2]; refine wpAnyH_one 4 rfl (by kernel_rfl) rfl (fun K hK => ?_); go_simp; go_at_call 9
        (with_reducible refine (shAt A1 A2 A3 A4 P1 P2 P3 T a b c d ga _ (HM.out.below HD.out.bl) HT.out (HD.out.at_ 0 rfl)).mono ?_)
        rintro e w37 ⟨⟨A, n, c, B, m, d', rfl, hr⟩, hb⟩; replace HD : Sl _ := ⟨HD.out.below hb⟩; have HR : Sl _ := ⟨hr⟩; clear hb hr HT; refine hK.out _ _ ⟨HD.out.bl, HD.out.at_ 2 rfl⟩ (fun hHeld => ?_); clear hK K
        (try simp only [Act.put, sS0, sS1, sS2])
        refine wpAnyH_pure 5 (v := .tuple #[.agg #[.slice A n c, .slice B m d'], .int .i64 0]) rfl (by kernel_rfl) (by kernel_rfl) (by kernel_rfl) (fun _ _ _ h => h) rfl (fun _ => rfl) (by assumption) ?_; simp only [Act.put, sS0, sS1, sS2]; refine wpAnyH_pure 6 (v := .agg #[.slice A n c, .slice B m d']) rfl (by kernel_rfl) (by kernel_rfl) (by kernel_rfl) (fun _ _ _ h => h) rfl (fun _ => by go_simp) (by assumption) ?_; simp only [Act.put, sS0, sS1, sS2]; refine wpAnyH_pure 7 (v := .int .i64 0) rfl (by kernel_rfl) (by kernel_rfl) (by kernel_rfl) (fun _ _ _ h => h) rfl (fun _ => by go_simp) (by assumption) ?_; simp only [Act.put, sS0, sS1, sS2]; refine wpAnyH_one 9 rfl (by kernel_rfl) rfl (fun K hK => ?_); refine wp_store_partm 39 (.tmp 2) (.tmp 18) rfl g2 0 #[.slice A n c, .slice B m d'] rfl rfl 39 _ #[.slice A n c, .slice B m d'] (HD.out.at_ 1 rfl) (by simp) (putA_all _ _ rfl) (by kernel_rfl) (by simp [Value.oneCell']) ?_; rintro w38 zm zs zb; replace HR : Sl _ := ⟨HR.out.mvR (HD.out.at_ 1 rfl) zm⟩; replace HD : Sl _ := ⟨HD.out.set 1 rfl zm zb⟩; clear zm zs zb; refine hK.out _ _ ⟨HD.out.bl, HD.out.at_ 2 rfl⟩ (fun hHeld => ?_); clear hK K
        (try simp only [Act.put, sS0, sS1, sS2])
        refine wpAnyH_pure 10 (v := .int .i64 0) rfl (by kernel_rfl) (by kernel_rfl) (by kernel_rfl) (fun _ _ _ h => h) rfl (fun _ => rfl) (by assumption) ?_; simp only [Act.put, sS0, sS1, sS2]; refine wpAnyH_done (by kernel_rfl) ?_ _
        (try go_wp2_with fail)
        go_meet
        exact ⟨g2, A, B, n, c, m, d', rfl, rfl, ⟨HD.out.two 1 2 rfl rfl (by decide), HR.out⟩⟩
      · skip; refine wp_newblk (fun g => .slice (some ⟨g, 0, none⟩) 1 1) 3 #[.int .i64 1] (fun _ => by kernel_rfl) ?_; rintro w39 ga zg zm zw zb; replace HD : Sl _ := ⟨HD.out.new zg zm zb⟩; clear zg zm zw zb; refine hK.out _ _ ⟨HD.out.bl, HD.out.at_ 2 rfl⟩ (fun hHeld => ?_); clear hK K
        (try simp only [Act.put, sS0, sS1, sS2])
        refine wpAnyH_pure 3 (v := .agg #[.slice (some ⟨ga, 0, none⟩) 1 1, .slice none 0 0]) rfl (by kernel_rfl) (by kernel_rfl) (by kernel_rfl) (fun _ _ _ h => h) rfl (fun _ => by go_simp) (by assumption) ?_; simp only [Act.put, sS0, sS1, sS2]; refine wpAnyH_one 1 rfl (by kernel_rfl) rfl (fun K hK => ?_); go_simp; go_at_call 10
        (with_reducible refine (table_any _).mono ?_)
        rintro e w40 ⟨⟨T, a, b, c, d, rfl, ht⟩, hb⟩; replace HD : Sl _ := ⟨HD.out.below hb⟩; have HT : Sl _ := ⟨ht⟩; clear hb ht; refine hK.out _ _ ⟨HD.out.bl, HD.out.at_ 2 rfl⟩ (fun hHeld => ?_); clear hK K
        (try simp only [Act.put, sS0, sS1, sS2])
        refine wpAnyH_one 4 rfl (by kernel_rfl) rfl (fun K hK => ?_); go_simp; go_at_call 9
        (with_reducible refine (shAt A1 A2 A3 A4 P1 P2 P3 T a b c d ga _ (HM.out.below HD.out.bl) HT.out (HD.out.at_ 0 rfl)).mono ?_)
        rintro e w41 ⟨⟨A, n, c, B, m, d', rfl, hr⟩, hb⟩; replace HD : Sl _ := ⟨HD.out.below hb⟩; have HR : Sl _ := ⟨hr⟩; clear hb hr HT; refine hK.out _ _ ⟨HD.out.bl, HD.out.at_ 2 rfl⟩ (fun hHeld => ?_); clear hK K
        (try simp only [Act.put, sS0, sS1, sS2])
        refine wpAnyH_pure 5 (v := .tuple #[.agg #[.slice A n c, .slice B m d'], .int .i64 0]) rfl (by kernel_rfl) (by kernel_rfl) (by kernel_rfl) (fun _ _ _ h => h) rfl (fun _ => rfl) (by assumption) ?_; simp only [Act.put, sS0, sS1, sS2]; refine wpAnyH_pure 6 (v := .agg #[.slice A n c, .slice B m d']) rfl (by kernel_rfl) (by kernel_rfl) (by kernel_rfl) (fun _ _ _ h => h) rfl (fun _ => by go_simp) (by assumption) ?_; simp only [Act.put, sS0, sS1, sS2]; refine wpAnyH_pure 7 (v := .int .i64 0) rfl (by kernel_rfl) (by kernel_rfl) (by kernel_rfl) (fun _ _ _ h => h) rfl (fun _ => by go_simp) (by assumption) ?_; simp only [Act.put, sS0, sS1, sS2]; refine wpAnyH_one 9 rfl (by kernel_rfl) rfl (fun K hK => ?_); refine wp_store_partm 39 (.tmp 2) (.tmp 18) rfl g2 0 #[.slice A n c, .slice B m d'] rfl rfl 39 _ #[.slice A n c, .slice B m d'] (HD.out.at_ 1 rfl) (by simp) (putA_all _ _ rfl) (by kernel_rfl) (by simp [Value.oneCell']) ?_; rintro w42 zm zs zb; replace HR : Sl _ := ⟨HR.out.mvR (HD.out.at_ 1 rfl) zm⟩; replace HD : Sl _ := ⟨HD.out.set 1 rfl zm zb⟩; clear zm zs zb; refine hK.out _ _ ⟨HD.out.bl, HD.out.at_ 2 rfl⟩ (fun hHeld => ?_); clear hK K
        (try simp only [Act.put, sS0, sS1, sS2])
        refine wpAnyH_pure 10 (v := .int .i64 0) rfl (by kernel_rfl) (by kernel_rfl) (by kernel_rfl) (fun _ _ _ h => h) rfl (fun _ => rfl) (by assumption) ?_; simp only [Act.put, sS0, sS1, sS2]; refine wpAnyH_done (by kernel_rfl) ?_ _
        (try go_wp2_with fail)
        go_meet
        exact ⟨g2, A, B, n, c, m, d', rfl, rfl, ⟨HD.out.two 1 2 rfl rfl (by decide), HR.out⟩⟩
  case rest =>
    clear HD; obtain ⟨g2, A, B, n, c, m, d, rfl, rfl, HX⟩ := hcut; have HR : Sl _ := ⟨HX.out.2⟩; have HD : Sl _ := ⟨HX.out.1⟩; clear HX; have hn3 : n = 3 := HR.out.s.1.symm; have hm1 : m = 1 := HR.out.c.1.symm; subst hn3 hm1
    rename World => wx
    go_upto_region 3 with fail
    go_cut [4, 5] from 20 to 28 (fun s4 s5 wy => s4 = .int .i64 2 ∧ s5 = .int .i64 0 ∧ Sl (Below wx.heap.size wx wy))
    case first =>
      have HB : Sl (∀ W, Below wx.heap.size wx W → Blk W g1 35 #[.slice A1 1 1, .slice A2 2 2, .slice A3 3 3, .slice A4 1 1]) := ⟨fun W h => (HD.out.at_ 1 rfl).below h (HD.out.at_ 1 rfl).lt⟩; have HM2 : Sl (∀ W, Below wx.heap.size wx W → SpM W (exO A1 A2 A3 A4 P1 P2 P3)) := ⟨fun W h => HM.out.below (HD.out.bl.trans (h.mono HD.out.bl.size))⟩; have hS0 : Below wx.heap.size wx wx.drew := below_drewN (Below.refl _ _) 1; have HL : Sl (Lg wx wx.drew []) := ⟨(Lg.nil wx).below hS0⟩; clear HD; have HD : Sl _ := ⟨HL.out⟩; clear HL; have hm := hS0; refine wp_region_held_drew (S := fun w' => Below wx.heap.size wx w') (by kernel_rfl) hm (fun hHeld => ?_); clear hm; refine wpAnyH_load 0 35 (.tmp 1) rfl rfl rfl g1 0 rfl #[.slice A1 1 1, .slice A2 2 2, .slice A3 3 3, .slice A4 1 1] _ (fun w' h => by have := World.rangeAt_of_block (HB.out w' h) 0 4; exact this) Tryd.underlying35 rfl (by kernel_rfl) (by kernel_rfl) (by kernel_rfl) (by kernel_rfl) (fun _ _ _ h => h) (by assumption) ?_; simp only [Act.put, sS0, sS1, sS2]; refine wpAnyH_threem 1 2 3 rfl rfl rfl (by kernel_rfl) rfl rfl rfl (fun K hK => ?_) (fun K hK => ?_) (fun K hK => ?_) 
      · skip; go_simp; go_at_call 10
        (with_reducible refine (table_any _).mono ?_)
        rintro e w43 ⟨⟨T, a, b, c', d', rfl, ht⟩, hb⟩; replace HD : Sl _ := ⟨HD.out.below hb⟩; have HT : Sl _ := ⟨ht⟩; clear hb ht; refine hK.out _ _ HD.out.bl (fun hHeld => ?_); clear hK K
        (try simp only [Act.put, sS0, sS1, sS2])
        refine wpAnyH_twom 2 3 rfl rfl (by kernel_rfl) rfl rfl (fun K hK => ?_) (fun K hK => ?_) 
        · skip; refine wp_newblk (fun g => .slice (some ⟨g, 0, none⟩) 1 1) 3 #[.int .i64 0] (fun _ => by kernel_rfl) ?_; rintro w44 ga zg zm zw zb; replace HD : Sl _ := ⟨HD.out.new zg zm zb⟩; replace HT : Sl _ := ⟨HT.out.below zw⟩; clear zg zm zw zb; refine hK.out _ _ HD.out.bl (fun hHeld => ?_); clear hK K
          (try simp only [Act.put, sS0, sS1, sS2])
          refine wpAnyH_one 3 rfl (by kernel_rfl) rfl (fun K hK => ?_); refine wp_newblk (fun g => .slice (some ⟨g, 0, none⟩) 1 1) 3 #[.int .i64 0] (fun _ => by kernel_rfl) ?_; rintro w45 gb zg zm zw zb; replace HD : Sl _ := ⟨HD.out.new zg zm zb⟩; replace HT : Sl _ := ⟨HT.out.below zw⟩; clear zg zm zw zb; refine hK.out _ _ HD.out.bl (fun hHeld => ?_); clear hK K
          (try simp only [Act.put, sS0, sS1, sS2])
          refine wpAnyH_pure 4 (v := .agg #[.slice (some ⟨ga, 0, none⟩) 1 1, .slice (some ⟨gb, 0, none⟩) 1 1]) rfl (by kernel_rfl) (by kernel_rfl) (by kernel_rfl) (fun _ _ _ h => h) rfl (fun _ => by go_simp) (by assumption) ?_; simp only [Act.put, sS0, sS1, sS2]; refine wpAnyH_one 5 rfl (by kernel_rfl) rfl (fun K hK => ?_); go_simp; go_at_call 11
          (with_reducible refine (shNeeded A1 A2 A3 A4 P1 P2 P3 T a b c' d' ga gb _ (HM2.out _ HD.out.bl) HT.out (HD.out.at_ 1 rfl) (HD.out.at_ 0 rfl)).mono ?_)
          rintro e w46 ⟨rfl, hb⟩; replace HD : Sl _ := ⟨HD.out.below hb⟩; clear hb; refine hK.out _ _ HD.out.bl (fun hHeld => ?_); clear hK K
          (try simp only [Act.put, sS0, sS1, sS2])
          clear HT; refine wpAnyH_pure 6 (v := .tuple #[.int .i64 2, .int .i64 0]) rfl (by kernel_rfl) (by kernel_rfl) (by kernel_rfl) (fun _ _ _ h => h) rfl (fun _ => rfl) (by assumption) ?_; simp only [Act.put, sS0, sS1, sS2]; refine wpAnyH_pure 7 (v := .int .i64 2) rfl (by kernel_rfl) (by kernel_rfl) (by kernel_rfl) (fun _ _ _ h => h) rfl (fun _ => by go_simp) (by assumption) ?_; simp only [Act.put, sS0, sS1, sS2]; refine wpAnyH_pure 8 (v := .int .i64 0) rfl (by kernel_rfl) (by kernel_rfl) (by kernel_rfl) (fun _ _ _ h => h) rfl (fun _ => by go_simp) (by assumption) ?_; simp only [Act.put, sS0, sS1, sS2]; refine wpAnyH_pure 9 (v := .int .i64 2) rfl (by kernel_rfl) (by kernel_rfl) (by kernel_rfl) (fun _ _ _ h => h) rfl (fun _ => rfl) (by assumption) ?_; simp only [Act.put, sS0, sS1, sS2]; refine wpAnyH_pure 10 (v := .int .i64 0) rfl (by kernel_rfl) (by kernel_rfl) (by kernel_rfl) (fun _ _ _ h => h) rfl (fun _ => rfl) (by assumption) ?_; simp only [Act.put, sS0, sS1, sS2]; refine wpAnyH_done (by kernel_rfl) ?_ _
          (try go_wp2_with fail)
          go_meet
          exact ⟨rfl, rfl, ⟨HD.out.bl⟩⟩
        · skip; refine wp_newblk (fun g => .slice (some ⟨g, 0, none⟩) 1 1) 3 #[.int .i64 0] (fun _ => by kernel_rfl) ?_; rintro w47 gb zg zm zw zb; replace HD : Sl _ := ⟨HD.out.new zg zm zb⟩; replace HT : Sl _ := ⟨HT.out.below zw⟩; clear zg zm zw zb; refine hK.out _ _ HD.out.bl (fun hHeld => ?_); clear hK K
          (try simp only [Act.put, sS0, sS1, sS2])
          refine wpAnyH_one 2 rfl (by kernel_rfl) rfl (fun K hK => ?_); refine wp_newblk (fun g => .slice (some ⟨g, 0, none⟩) 1 1) 3 #[.int .i64 0] (fun _ => by kernel_rfl) ?_; rintro w48 ga zg zm zw zb; replace HD : Sl _ := ⟨HD.out.new zg zm zb⟩; replace HT : Sl _ := ⟨HT.out.below zw⟩; clear zg zm zw zb; refine hK.out _ _ HD.out.bl (fun hHeld => ?_); clear hK K
          (try simp only [Act.put, sS0, sS1, sS2])
          refine wpAnyH_pure 4 (v := .agg #[.slice (some ⟨ga, 0, none⟩) 1 1, .slice (some ⟨gb, 0, none⟩) 1 1]) rfl (by kernel_rfl) (by kernel_rfl) (by kernel_rfl) (fun _ _ _ h => h) rfl (fun _ => by go_simp) (by assumption) ?_; simp only [Act.put, sS0, sS1, sS2]; refine wpAnyH_one 5 rfl (by kernel_rfl) rfl (fun K hK => ?_); go_simp; go_at_call 11
          (with_reducible refine (shNeeded A1 A2 A3 A4 P1 P2 P3 T a b c' d' ga gb _ (HM2.out _ HD.out.bl) HT.out (HD.out.at_ 0 rfl) (HD.out.at_ 1 rfl)).mono ?_)
          rintro e w49 ⟨rfl, hb⟩; replace HD : Sl _ := ⟨HD.out.below hb⟩; clear hb; refine hK.out _ _ HD.out.bl (fun hHeld => ?_); clear hK K
          (try simp only [Act.put, sS0, sS1, sS2])
          clear HT; refine wpAnyH_pure 6 (v := .tuple #[.int .i64 2, .int .i64 0]) rfl (by kernel_rfl) (by kernel_rfl) (by kernel_rfl) (fun _ _ _ h => h) rfl (fun _ => rfl) (by assumption) ?_; simp only [Act.put, sS0, sS1, sS2]; refine wpAnyH_pure 7 (v := .int .i64 2) rfl (by kernel_rfl) (by kernel_rfl) (by kernel_rfl) (fun _ _ _ h => h) rfl (fun _ => by go_simp) (by assumption) ?_; simp only [Act.put, sS0, sS1, sS2]; refine wpAnyH_pure 8 (v := .int .i64 0) rfl (by kernel_rfl) (by kernel_rfl) (by kernel_rfl) (fun _ _ _ h => h) rfl (fun _ => by go_simp) (by assumption) ?_; simp only [Act.put, sS0, sS1, sS2]; refine wpAnyH_pure 9 (v := .int .i64 2) rfl (by kernel_rfl) (by kernel_rfl) (by kernel_rfl) (fun _ _ _ h => h) rfl (fun _ => rfl) (by assumption) ?_; simp only [Act.put, sS0, sS1, sS2]; refine wpAnyH_pure 10 (v := .int .i64 0) rfl (by kernel_rfl) (by kernel_rfl) (by kernel_rfl) (fun _ _ _ h => h) rfl (fun _ => rfl) (by assumption) ?_; simp only [Act.put, sS0, sS1, sS2]; refine wpAnyH_done (by kernel_rfl) ?_ _
          (try go_wp2_with fail)
          go_meet
          exact ⟨rfl, rfl, ⟨HD.out.bl⟩⟩
      · skip; refine wp_newblk (fun g => .slice (some ⟨g, 0, none⟩) 1 1) 3 #[.int .i64 0] (fun _ => by kernel_rfl) ?_; rintro w50 ga zg zm zw zb; replace HD : Sl _ := ⟨HD.out.new zg zm zb⟩; clear zg zm zw zb; refine hK.out _ _ HD.out.bl (fun hHeld => ?_); clear hK K
        (try simp only [Act.put, sS0, sS1, sS2])
        refine wpAnyH_twom 1 3 rfl rfl (by kernel_rfl) rfl rfl (fun K hK => ?_) (fun K hK => ?_) 
        · skip; go_simp; go_at_call 10
          (with_reducible refine (table_any _).mono ?_)
          rintro e w51 ⟨⟨T, a, b, c', d', rfl, ht⟩, hb⟩; replace HD : Sl _ := ⟨HD.out.below hb⟩; have HT : Sl _ := ⟨ht⟩; clear hb ht; refine hK.out _ _ HD.out.bl (fun hHeld => ?_); clear hK K
          (try simp only [Act.put, sS0, sS1, sS2])
          refine wpAnyH_one 3 rfl (by kernel_rfl) rfl (fun K hK => ?_); refine wp_newblk (fun g => .slice (some ⟨g, 0, none⟩) 1 1) 3 #[.int .i64 0] (fun _ => by kernel_rfl) ?_; rintro w52 gb zg zm zw zb; replace HD : Sl _ := ⟨HD.out.new zg zm zb⟩; replace HT : Sl _ := ⟨HT.out.below zw⟩; clear zg zm zw zb; refine hK.out _ _ HD.out.bl (fun hHeld => ?_); clear hK K
          (try simp only [Act.put, sS0, sS1, sS2])
          refine wpAnyH_pure 4 (v := .agg #[.slice (some ⟨ga, 0, none⟩) 1 1, .slice (some ⟨gb, 0, none⟩) 1 1]) rfl (by kernel_rfl) (by kernel_rfl) (by kernel_rfl) (fun _ _ _ h => h) rfl (fun _ => by go_simp) (by assumption) ?_; simp only [Act.put, sS0, sS1, sS2]; refine wpAnyH_one 5 rfl (by kernel_rfl) rfl (fun K hK => ?_); go_simp; go_at_call 11
          (with_reducible refine (shNeeded A1 A2 A3 A4 P1 P2 P3 T a b c' d' ga gb _ (HM2.out _ HD.out.bl) HT.out (HD.out.at_ 1 rfl) (HD.out.at_ 0 rfl)).mono ?_)
          rintro e w53 ⟨rfl, hb⟩; replace HD : Sl _ := ⟨HD.out.below hb⟩; clear hb; refine hK.out _ _ HD.out.bl (fun hHeld => ?_); clear hK K
          (try simp only [Act.put, sS0, sS1, sS2])
          clear HT; refine wpAnyH_pure 6 (v := .tuple #[.int .i64 2, .int .i64 0]) rfl (by kernel_rfl) (by kernel_rfl) (by kernel_rfl) (fun _ _ _ h => h) rfl (fun _ => rfl) (by assumption) ?_; simp only [Act.put, sS0, sS1, sS2]; refine wpAnyH_pure 7 (v := .int .i64 2) rfl (by kernel_rfl) (by kernel_rfl) (by kernel_rfl) (fun _ _ _ h => h) rfl (fun _ => by go_simp) (by assumption) ?_; simp only [Act.put, sS0, sS1, sS2]; refine wpAnyH_pure 8 (v := .int .i64 0) rfl (by kernel_rfl) (by kernel_rfl) (by kernel_rfl) (fun _ _ _ h => h) rfl (fun _ => by go_simp) (by assumption) ?_; simp only [Act.put, sS0, sS1, sS2]; refine wpAnyH_pure 9 (v := .int .i64 2) rfl (by kernel_rfl) (by kernel_rfl) (by kernel_rfl) (fun _ _ _ h => h) rfl (fun _ => rfl) (by assumption) ?_; simp only [Act.put, sS0, sS1, sS2]; refine wpAnyH_pure 10 (v := .int .i64 0) rfl (by kernel_rfl) (by kernel_rfl) (by kernel_rfl) (fun _ _ _ h => h) rfl (fun _ => rfl) (by assumption) ?_; simp only [Act.put, sS0, sS1, sS2]; refine wpAnyH_done (by kernel_rfl) ?_ _
          (try go_wp2_with fail)
          go_meet
          exact ⟨rfl, rfl, ⟨HD.out.bl⟩⟩
        · skip; refine wp_newblk (fun g => .slice (some ⟨g, 0, none⟩) 1 1) 3 #[.int .i64 0] (fun _ => by kernel_rfl) ?_; rintro w54 gb zg zm zw zb; replace HD : Sl _ := ⟨HD.out.new zg zm zb⟩; clear zg zm zw zb; refine hK.out _ _ HD.out.bl (fun hHeld => ?_); clear hK K
          (try simp only [Act.put, sS0, sS1, sS2])
          refine wpAnyH_pure 4 (v := .agg #[.slice (some ⟨ga, 0, none⟩) 1 1, .slice (some ⟨gb, 0, none⟩) 1 1]) rfl (by kernel_rfl) (by kernel_rfl) (by kernel_rfl) (fun _ _ _ h => h) rfl (fun _ => by go_simp) (by assumption) ?_; simp only [Act.put, sS0, sS1, sS2]; refine wpAnyH_one 1 rfl (by kernel_rfl) rfl (fun K hK => ?_); go_simp; go_at_call 10
          (with_reducible refine (table_any _).mono ?_)
          rintro e w55 ⟨⟨T, a, b, c', d', rfl, ht⟩, hb⟩; replace HD : Sl _ := ⟨HD.out.below hb⟩; have HT : Sl _ := ⟨ht⟩; clear hb ht; refine hK.out _ _ HD.out.bl (fun hHeld => ?_); clear hK K
          (try simp only [Act.put, sS0, sS1, sS2])
          refine wpAnyH_one 5 rfl (by kernel_rfl) rfl (fun K hK => ?_); go_simp; go_at_call 11
          (with_reducible refine (shNeeded A1 A2 A3 A4 P1 P2 P3 T a b c' d' ga gb _ (HM2.out _ HD.out.bl) HT.out (HD.out.at_ 1 rfl) (HD.out.at_ 0 rfl)).mono ?_)
          rintro e w56 ⟨rfl, hb⟩; replace HD : Sl _ := ⟨HD.out.below hb⟩; clear hb; refine hK.out _ _ HD.out.bl (fun hHeld => ?_); clear hK K
          (try simp only [Act.put, sS0, sS1, sS2])
          clear HT; refine wpAnyH_pure 6 (v := .tuple #[.int .i64 2, .int .i64 0]) rfl (by kernel_rfl) (by kernel_rfl) (by kernel_rfl) (fun _ _ _ h => h) rfl (fun _ => rfl) (by assumption) ?_; simp only [Act.put, sS0, sS1, sS2]; refine wpAnyH_pure 7 (v := .int .i64 2) rfl (by kernel_rfl) (by kernel_rfl) (by kernel_rfl) (fun _ _ _ h => h) rfl (fun _ => by go_simp) (by assumption) ?_; simp only [Act.put, sS0, sS1, sS2]; refine wpAnyH_pure 8 (v := .int .i64 0) rfl (by kernel_rfl) (by kernel_rfl) (by kernel_rfl) (fun _ _ _ h => h) rfl (fun _ => by go_simp) (by assumption) ?_; simp only [Act.put, sS0, sS1, sS2]; refine wpAnyH_pure 9 (v := .int .i64 2) rfl (by kernel_rfl) (by kernel_rfl) (by kernel_rfl) (fun _ _ _ h => h) rfl (fun _ => rfl) (by assumption) ?_; simp only [Act.put, sS0, sS1, sS2]; refine wpAnyH_pure 10 (v := .int .i64 0) rfl (by kernel_rfl) (by kernel_rfl) (by kernel_rfl) (fun _ _ _ h => h) rfl (fun _ => rfl) (by assumption) ?_; simp only [Act.put, sS0, sS1, sS2]; refine wpAnyH_done (by kernel_rfl) ?_ _
          (try go_wp2_with fail)
          go_meet
          exact ⟨rfl, rfl, ⟨HD.out.bl⟩⟩
      · skip; refine wp_newblk (fun g => .slice (some ⟨g, 0, none⟩) 1 1) 3 #[.int .i64 0] (fun _ => by kernel_rfl) ?_; rintro w57 gb zg zm zw zb; replace HD : Sl _ := ⟨HD.out.new zg zm zb⟩; clear zg zm zw zb; refine hK.out _ _ HD.out.bl (fun hHeld => ?_); clear hK K
        (try simp only [Act.put, sS0, sS1, sS2])
        refine wpAnyH_twom 1 2 rfl rfl (by kernel_rfl) rfl rfl (fun K hK => ?_) (fun K hK => ?_) 
        · skip; go_simp; go_at_call 10
          (with_reducible refine (table_any _).mono ?_)
          rintro e w58 ⟨⟨T, a, b, c', d', rfl, ht⟩, hb⟩; replace HD : Sl _ := ⟨HD.out.below hb⟩; have HT : Sl _ := ⟨ht⟩; clear hb ht; refine hK.out _ _ HD.out.bl (fun hHeld => ?_); clear hK K
          (try simp only [Act.put, sS0, sS1, sS2])
          refine wpAnyH_one 2 rfl (by kernel_rfl) rfl (fun K hK => ?_); refine wp_newblk (fun g => .slice (some ⟨g, 0, none⟩) 1 1) 3 #[.int .i64 0] (fun _ => by kernel_rfl) ?_; rintro w59 ga zg zm zw zb; replace HD : Sl _ := ⟨HD.out.new zg zm zb⟩; replace HT : Sl _ := ⟨HT.out.below zw⟩; clear zg zm zw zb; refine hK.out _ _ HD.out.bl (fun hHeld => ?_); clear hK K
          (try simp only [Act.put, sS0, sS1, sS2])
          refine wpAnyH_pure 4 (v := .agg #[.slice (some ⟨ga, 0, none⟩) 1 1, .slice (some ⟨gb, 0, none⟩) 1 1]) rfl (by kernel_rfl) (by kernel_rfl) (by kernel_rfl) (fun _ _ _ h => h) rfl (fun _ => by go_simp) (by assumption) ?_; simp only [Act.put, sS0, sS1, sS2]; refine wpAnyH_one 5 rfl (by kernel_rfl) rfl (fun K hK => ?_); go_simp; go_at_call 11
          (with_reducible refine (shNeeded A1 A2 A3 A4 P1 P2 P3 T a b c' d' ga gb _ (HM2.out _ HD.out.bl) HT.out (HD.out.at_ 0 rfl) (HD.out.at_ 1 rfl)).mono ?_)
          rintro e w60 ⟨rfl, hb⟩; replace HD : Sl _ := ⟨HD.out.below hb⟩; clear hb; refine hK.out _ _ HD.out.bl (fun hHeld => ?_); clear hK K
          (try simp only [Act.put, sS0, sS1, sS2])
          clear HT; refine wpAnyH_pure 6 (v := .tuple #[.int .i64 2, .int .i64 0]) rfl (by kernel_rfl) (by kernel_rfl) (by kernel_rfl) (fun _ _ _ h => h) rfl (fun _ => rfl) (by assumption) ?_; simp only [Act.put, sS0, sS1, sS2]; refine wpAnyH_pure 7 (v := .int .i64 2) rfl (by kernel_rfl) (by kernel_rfl) (by kernel_rfl) (fun _ _ _ h => h) rfl (fun _ => by go_simp) (by assumption) ?_; simp only [Act.put, sS0, sS1, sS2]; refine wpAnyH_pure 8 (v := .int .i64 0) rfl (by kernel_rfl) (by kernel_rfl) (by kernel_rfl) (fun _ _ _ h => h) rfl (fun _ => by go_simp) (by assumption) ?_; simp only [Act.put, sS0, sS1, sS2]; refine wpAnyH_pure 9 (v := .int .i64 2) rfl (by kernel_rfl) (by kernel_rfl) (by kernel_rfl) (fun _ _ _ h => h) rfl (fun _ => rfl) (by assumption) ?_; simp only [Act.put, sS0, sS1, sS2]; refine wpAnyH_pure 10 (v := .int .i64 0) rfl (by kernel_rfl) (by kernel_rfl) (by kernel_rfl) (fun _ _ _ h => h) rfl (fun _ => rfl) (by assumption) ?_; simp only [Act.put, sS0, sS1, sS2]; refine wpAnyH_done (by kernel_rfl) ?_ _
          (try go_wp2_with fail)
          go_meet
          exact ⟨rfl, rfl, ⟨HD.out.bl⟩⟩
        · skip; refine wp_newblk (fun g => .slice (some ⟨g, 0, none⟩) 1 1) 3 #[.int .i64 0] (fun _ => by kernel_rfl) ?_; rintro w61 ga zg zm zw zb; replace HD : Sl _ := ⟨HD.out.new zg zm zb⟩; clear zg zm zw zb; refine hK.out _ _ HD.out.bl (fun hHeld => ?_); clear hK K
          (try simp only [Act.put, sS0, sS1, sS2])
          refine wpAnyH_pure 4 (v := .agg #[.slice (some ⟨ga, 0, none⟩) 1 1, .slice (some ⟨gb, 0, none⟩) 1 1]) rfl (by kernel_rfl) (by kernel_rfl) (by kernel_rfl) (fun _ _ _ h => h) rfl (fun _ => by go_simp) (by assumption) ?_; simp only [Act.put, sS0, sS1, sS2]; refine wpAnyH_one 1 rfl (by kernel_rfl) rfl (fun K hK => ?_); go_simp; go_at_call 10
          (with_reducible refine (table_any _).mono ?_)
          rintro e w62 ⟨⟨T, a, b, c', d', rfl, ht⟩, hb⟩; replace HD : Sl _ := ⟨HD.out.below hb⟩; have HT : Sl _ := ⟨ht⟩; clear hb ht; refine hK.out _ _ HD.out.bl (fun hHeld => ?_); clear hK K
          (try simp only [Act.put, sS0, sS1, sS2])
          refine wpAnyH_one 5 rfl (by kernel_rfl) rfl (fun K hK => ?_); go_simp; go_at_call 11
          (with_reducible refine (shNeeded A1 A2 A3 A4 P1 P2 P3 T a b c' d' ga gb _ (HM2.out _ HD.out.bl) HT.out (HD.out.at_ 0 rfl) (HD.out.at_ 1 rfl)).mono ?_)
          rintro e w63 ⟨rfl, hb⟩; replace HD : Sl _ := ⟨HD.out.below hb⟩; clear hb; refine hK.out _ _ HD.out.bl (fun hHeld => ?_); clear hK K
          (try simp only [Act.put, sS0, sS1, sS2])
          clear HT; refine wpAnyH_pure 6 (v := .tuple #[.int .i64 2, .int .i64 0]) rfl (by kernel_rfl) (by kernel_rfl) (by kernel_rfl) (fun _ _ _ h => h) rfl (fun _ => rfl) (by assumption) ?_; simp only [Act.put, sS0, sS1, sS2]; refine wpAnyH_pure 7 (v := .int .i64 2) rfl (by kernel_rfl) (by kernel_rfl) (by kernel_rfl) (fun _ _ _ h => h) rfl (fun _ => by go_simp) (by assumption) ?_; simp only [Act.put, sS0, sS1, sS2]; refine wpAnyH_pure 8 (v := .int .i64 0) rfl (by kernel_rfl) (by kernel_rfl) (by kernel_rfl) (fun _ _ _ h => h) rfl (fun _ => by go_simp) (by assumption) ?_; simp only [Act.put, sS0, sS1, sS2]; refine wpAnyH_pure 9 (v := .int .i64 2) rfl (by kernel_rfl) (by kernel_rfl) (by kernel_rfl) (fun _ _ _ h => h) rfl (fun _ => rfl) (by assumption) ?_; simp only [Act.put, sS0, sS1, sS2]; refine wpAnyH_pure 10 (v := .int .i64 0) rfl (by kernel_rfl) (by kernel_rfl) (by kernel_rfl) (fun _ _ _ h => h) rfl (fun _ => rfl) (by assumption) ?_; simp only [Act.put, sS0, sS1, sS2]; refine wpAnyH_done (by kernel_rfl) ?_ _
          (try go_wp2_with fail)
          go_meet
          exact ⟨rfl, rfl, ⟨HD.out.bl⟩⟩
    case rest =>
      obtain ⟨rfl, rfl, HY⟩ := hcut; replace HD : Sl _ := ⟨HD.out.below HY.out⟩; replace HR : Sl _ := ⟨HR.out.below HY.out⟩; clear HY
      go_wp2_with ((with_reducible show wpList _ _ _ _ _ _); first
        | (refine wpList_made 30 rfl rfl 2 5 #[.int .i64 5, .int .i64 1, .int .i64 3, .int .i64 4, .int .i64 2] (fun _ => by kernel_rfl) ?_; rintro w50 g30 zg zm zs zb; replace HD : Sl _ := ⟨HD.out.new zg zm zb⟩; replace HR : Sl _ := ⟨HR.out.below (below_mv (Below.refl _ _) zm (Nat.le_refl _) (Nat.le_refl _))⟩; clear zg zm zs zb))
      refine (shPlan g30 _ (HD.out.at_ 0 rfl)).mono ?_; rintro e wp ⟨⟨AP, cP, L, rfl, hg, hl⟩, hb⟩; have HO : Sl _ := ⟨HD.out.below hb⟩; replace HR : Sl _ := ⟨HR.out.below hb⟩; have HG : Sl _ := ⟨hg⟩; have HGL : Sl _ := ⟨hl⟩; clear HD hb hg hl; have HD : Sl (Lg wp wp []) := ⟨Lg.nil wp⟩
      go_wp2_with ((with_reducible show wpList _ _ _ _ _ _); first
        | (refine wpList_load_whole rfl 35 (.tmp 1) rfl g1 rfl 35 _ _ ((HO.out.below HD.out.bl).at_ 2 rfl) Tryd.underlying35 rfl (by kernel_rfl) ?_)
        | (refine wpList_made 37 rfl rfl 3 2 #[.int .i64 0, .int .i64 2] (fun _ => by kernel_rfl) ?_; rintro w51 g37 zg zm zs zb; replace HD : Sl _ := ⟨HD.out.new zg zm zb⟩; clear zg zm zs zb)
        | (refine wpList_made 38 rfl rfl 3 1 #[.int .i64 0] (fun _ => by kernel_rfl) ?_; rintro w52 g38 zg zm zs zb; replace HD : Sl _ := ⟨HD.out.new zg zm zb⟩; clear zg zm zs zb)
        | (refine wpList_made 41 rfl rfl 39 2 #[.slice (some ⟨g37, 0, none⟩) 2 2, .slice (some ⟨g38, 0, none⟩) 1 1, .slice none 0 0, .slice none 0 0] (fun _ => by kernel_rfl) ?_; rintro w53 g41 zg zm zs zb; replace HD : Sl _ := ⟨HD.out.new zg zm zb⟩; clear zg zm zs zb))
      refine (shPrint A1 A2 A3 A4 P1 P2 P3 g41 g37 g38 _ (HM.out.below (HO.out.bl.trans (HD.out.bl.mono HO.out.bl.size))) (HD.out.at_ 2 rfl) (HD.out.at_ 1 rfl) (HD.out.at_ 0 rfl)).mono ?_; rintro e wq ⟨rfl, hb⟩; replace HD : Sl _ := ⟨HD.out.below hb⟩; have HW : Sl (Below wp.heap.size wp wq) := ⟨HD.out.bl⟩; clear HD hb; have r0 := ((HO.out.below HW.out).at_ 1 rfl).cell 0; have r1 := ((HO.out.below HW.out).at_ 1 rfl).cell 1; simp at r0 r1; go_wp2_with fail; have H2 : Sl _ := ⟨two_rows wq 3 3 #[.int .i64 0, .int .i64 1, .int .i64 2] #[.int .i64 0]⟩; refine (sameR_any ⟨A, 3, c, [0, 1, 2], B, 1, d, [0]⟩ ⟨some ⟨wq.heap.size, 0, none⟩, 3, 3, [0, 1, 2], some ⟨wq.heap.size + 1, 0, none⟩, 1, 1, [0]⟩ _ (HR.out.below (HW.out.trans (H2.out.2.2.mono HW.out.size))) ⟨.of_blk H2.out.1 rfl rfl, .of_blk H2.out.2.1 rfl rfl, ⟨Nat.le_refl _, by show 3 ≤ maxLen; decide⟩, ⟨Nat.le_refl _, by show 1 ≤ maxLen; decide⟩⟩ rfl rfl (by show 3 ≤ 1000000; decide) (by show 1 ≤ 1000000; decide)).mono ?_; rintro e wr ⟨rfl, hb⟩; have HV : Sl (Below wp.heap.size wp wr) := ⟨(HW.out.trans (H2.out.2.2.mono HW.out.size)).trans (hb.mono (Nat.le_trans HW.out.size H2.out.2.2.size))⟩; clear HW H2 hb r0 r1; go_wp2_with fail; have H3 : Sl _ := ⟨three_rows wr 3 3 37 #[.int .i64 1, .int .i64 4, .int .i64 2] #[.int .i64 3, .int .i64 0] #[.slice (some ⟨wr.heap.size, 0, none⟩) 3 3, .slice (some ⟨wr.heap.size + 1, 0, none⟩) 2 2]⟩
      have HLE : Sl (∀ s ∈ L, s.n ≤ 1000000) := ⟨fun s hs => by
        have h1 := (HG.out.all s hs).1; have h2 : s.l ∈ L.map SlV.l := List.mem_map.2 ⟨s, hs, rfl⟩; rw [HGL.out] at h2; simp only [List.mem_cons, List.not_mem_nil, or_false] at h2; rcases h2 with h2 | h2
        · rw [h2] at h1; simp at h1; omega
        · rw [h2] at h1; simp at h1; omega⟩
      refine (groups_any AP (some ⟨wr.heap.size + 2, 0, none⟩) 2 cP 2 L [⟨some ⟨wr.heap.size, 0, none⟩, 3, 3, [1, 4, 2]⟩, ⟨some ⟨wr.heap.size + 1, 0, none⟩, 2, 2, [3, 0]⟩] _ (HG.out.below (HV.out.trans (H3.out.2.2.2.mono HV.out.size))) (.of_blk H3.out.2.2.1 rfl rfl (fun s hs => ?_)) (by decide) HGL.out HLE.out).mono ?_
      · simp only [List.mem_cons, List.not_mem_nil, or_false] at hs; rcases hs with rfl | rfl
        · exact .of_blk H3.out.1 rfl rfl
        · exact .of_blk H3.out.2.1 rfl rfl
      rintro e wt ⟨rfl, hb⟩; have HU : Sl (Below w.heap.size w wt) := ⟨HBE.out.trans ((HO.out.bl.trans (((HV.out.trans (H3.out.2.2.2.mono HV.out.size)).trans (hb.mono (Nat.le_trans HV.out.size H3.out.2.2.2.size))).mono HO.out.bl.size)).mono HBE.out.size)⟩; clear HV H3 hb HLE; go_wp2_with fail; go_ret; exact ⟨rfl, HU.out⟩
end Go.Proofs.YtbaojmfkjpnfhaaDoor
