/- words.Split. -/
import Derived.Test.YtabkpbbjodfolaaGreatDoorZvGa
import Derived.Test.YtabkpbbjodfolaaGreatDoorZvKa
namespace Go.Proofs.YtabkpbbjodfolaaGreatDoor
set_option linter.unusedSimpArgs false
open Go.RowKit Go.Shelf
set_option linter.unusedVariables false
attribute [local go_sem] Oper.semAt_some
abbrev FdV := Bool × ByteArray
def fdC (f : FdV) : List Value := [.bool f.1, .string f.2]
def fdB (f : FdV) : Fl := (f.1, f.2.data.toList)
theorem infoFd : ∃ i, Tryz.prog.info? 201 = some i ∧ i.zero = some (.agg #[.bool false, .string ⟨#[]⟩]) ∧ i.size = 2 ∧ i.bytes = 24 := by
  have h : (Tryz.prog.info? 201).map (fun i => (i.zero, i.size, i.bytes)) = some (some (.agg #[.bool false, .string ⟨#[]⟩]), 2, 24) := (by kernel_rfl); obtain ⟨i, hi, he⟩ := Option.map_eq_some_iff.1 h; injection he with e1 e2
  injection e2 with e2 e3
  exact ⟨i, hi, e1, e2, e3⟩
theorem fd_one (f : FdV) : ∀ u ∈ fdC f, u.oneCell' = true := fun u hu => by
  rcases List.mem_cons.1 hu with rfl | h
  · rfl
  · rw [List.mem_singleton.1 h]; rfl
def NoT (o : Obj) : Prop := ∀ cs t, (t = 148 ∨ t = 25 ∨ t = 201) → o ≠ .cells cs t (0, 0)
theorem NoT.cells {cs : Array Value} {t : TypeId} (h1 : t ≠ 148) (h2 : t ≠ 25) (h3 : t ≠ 201) : NoT (.cells cs t (0, 0)) := fun cs' t' h e => by
  injection e with _ e _
  subst e; rcases h with h | h | h
  · exact h1 h
  · exact h2 h
  · exact h3 h
theorem NoT.other {o : Obj} (h : o.isCells = false) : NoT o := fun cs t _ e => by rw [e] at h; cases h
structure SpI (w : World) (n1 : Nat) (W : World) (fl : List FdV) : Prop where
  bl : Below w.heap.size w W
  b2 : Blk W w.heap.size 148 #[.slice none 0 0]
  b3 : Blk W (w.heap.size + 1) 25 #[.int .i64 0]
  out : ∃ A n c, Blk W (w.heap.size + 2) 148 #[.slice A n c] ∧ W.ownsRow n1 201 2 (.slice A n c) n (fl.flatMap fdC)
  pos : n1 ≤ W.heap.size
theorem SpI.mvp {w W W' : World} {n1 : Nat} {fl : List FdV} {p : Nat → Prop} (h : SpI w n1 W fl) (hm : MvP p W W') (hp : ∀ k, p k → w.heap.size ≤ k ∧ ((w.heap.size + 3 ≤ k ∧ k < n1) ∨ ∃ o, W.heap[k]? = some o ∧ NoT o)) : SpI w n1 W' fl := by
  have key : ∀ {g : Nat} {t : TypeId} {cs : Array Value}, g < w.heap.size + 3 → (t = 148 ∨ t = 25 ∨ t = 201) → Blk W g t cs → Blk W' g t cs := fun {g t cs} hg ht hB => hm.blk hB fun e => by
    rcases (hp g e).2 with h1 | ⟨o, ho, hn⟩
    · omega
    · have hB' : W.heap[g]? = some (.cells cs t (0, 0)) := hB; rw [hB'] at ho; injection ho with ho
      exact hn cs t ht ho.symm
  refine ⟨hm.below h.bl h.bl.size (fun k e => (hp k e).1), key (by omega) (.inl rfl) h.b2, key (by omega) (.inr (.inl rfl)) h.b3, ?_, Nat.le_trans h.pos hm.size⟩; obtain ⟨A, n, c, h1, h2⟩ := h.out; refine ⟨A, n, c, key (by omega) (.inl rfl) h1, hm.own h2 (fun k hk e => ?_)⟩; rcases (hp k e).2 with h3 | ⟨o, ho, hn⟩
  · have := (own_lt2 h2 hk).1; omega
  rcases h2.2 with ⟨e0, _⟩ | ⟨g, cap, cur, e1, _, hh, _⟩
  · injection e0 with e0 _ _
    subst e0
    cases hk
  · rw [e1] at hk; have hk : g = k := (by injection hk); subst hk; rw [hh] at ho; injection ho with ho
    exact hn cur 201 (.inr (.inr rfl)) ho.symm
theorem SpI.below {w W W' : World} {n1 : Nat} {fl : List FdV} (h : SpI w n1 W fl) (hb : Below W.heap.size W W') : SpI w n1 W' fl := h.mvp (MvP.of_below hb) (fun _ e => e.elim)
theorem keeps_below {B : Nat} {W W' : World} (hb : Below W.heap.size W W') : KeepsFrom B W W' := ⟨hb.size, fun k o _ hk _ => (hb.block k (Array.getElem?_eq_some_iff.1 hk).1).trans hk⟩
theorem mapO_snoc (f : By → Option Fl) : ∀ (l : List By) (a : By), mapO f (l ++ [a]) = match mapO f l with
    | none => none
    | some x => (f a).map fun y => x ++ [y]
  | [], a => by
    rw [List.nil_append, mapO, mapO]
    cases f a <;> rfl
  | b :: l, a => by
    rw [List.cons_append, mapO, mapO]
    cases hb : f b with
    | none => rfl
    | some y =>
      simp only []; rw [mapO_snoc f l a]
      cases mapO f l with
      | none => rfl
      | some x => cases f a <;> rfl
theorem mapO_pre (f : By → Option Fl) : ∀ (l r : List By), mapO f l = none → mapO f (l ++ r) = none
  | [], r, h => by cases h
  | b :: l, r, h => by
    rw [List.cons_append, mapO] at *
    cases hb : f b with
    | none => rfl
    | some y =>
      rw [hb] at h; simp only [Option.map_eq_none_iff] at h; simp only []; rw [mapO_pre f l r h]; rfl
theorem mapO_len (f : By → Option Fl) : ∀ (l : List By) (x : List Fl), mapO f l = some x → x.length = l.length
  | [], x, h => by
    rw [mapO] at h; injection h with h
    subst h; rfl
  | b :: l, x, h => by
    rw [mapO] at h
    cases hb : f b with
    | none => rw [hb] at h; cases h
    | some y =>
      rw [hb] at h; simp only [] at h; obtain ⟨x', h1, rfl⟩ := Option.map_eq_some_iff.1 h; rw [List.length_cons, List.length_cons, mapO_len f l x' h1]
theorem row_len {W : World} {n1 : Nat} {pre : List Pc} {fl : List FdV} {A : Option Addr} {n c : Nat} (h : mapO fldP (pcB pre) = some (fl.map fdB)) (ho : W.ownsRow n1 201 2 (.slice A n c) n (fl.flatMap fdC)) (hlen : pre.length < 5000) : n = fl.length ∧ n ≤ 5000 := by
  have h1 := mapO_len _ _ _ h; rw [List.length_map, pcB, List.length_map] at h1
  have h2 : ∀ l : List FdV, (l.flatMap fdC).length = l.length * 2 := fun l => by
    induction l with
    | nil => rfl
    | cons r l ih => rw [List.flatMap_cons, List.length_append, ih, List.length_cons]; show 2 + _ = _; omega
  have h3 := ho.1; rw [h2] at h3; omega
theorem fd_new (W : World) (q : Bool) (s : ByteArray) (t : TypeId) : ∀ (j : Nat) (u : Value), [Value.bool q, Value.string s][j]? = some u → (W.alloc (.cells #[.bool q, .string s] t)).cell? ((⟨W.heap.size, 0, none⟩ : Addr).add j) = some u := fun j u hu => by
  have hB := Blk.new W t #[.bool q, .string s]
  have e : (⟨W.heap.size, 0, none⟩ : Addr).add j = ⟨W.heap.size, j, none⟩ := by
    unfold Addr.add
    by_cases h : j = 0
    · subst h; simp
    · simp [h]
  rw [e, hB.cell]; simpa using hu
theorem err_end {w V1 W W3 : World} {n1 l : Nat} {fl : List FdV} {pre : List Pc} (h2 : V1.heap.size = n1) (hq : SpI w n1 W fl) (hs : SpI w n1 W3 fl) (hb : Below W.heap.size W W3) (hl : V1.heap.size ≤ l) (hn : mapO fldP (pcB pre) = none) :
    KeepsFrom V1.heap.size W ((W3.setCell ⟨w.heap.size, 0, none⟩ (.slice none 0 0)).setCell ⟨w.heap.size + 1, 0, none⟩ (.int .i64 6)) ∧ mapO fldP (pcB pre) = none ∧ Below w.heap.size w ((W3.setCell ⟨w.heap.size, 0, none⟩ (.slice none 0 0)).setCell ⟨w.heap.size + 1, 0, none⟩ (.int .i64 6)) ∧
      Blk ((W3.setCell ⟨w.heap.size, 0, none⟩ (.slice none 0 0)).setCell ⟨w.heap.size + 1, 0, none⟩ (.int .i64 6)) w.heap.size 148 #[.slice none 0 0] ∧ Blk ((W3.setCell ⟨w.heap.size, 0, none⟩ (.slice none 0 0)).setCell ⟨w.heap.size + 1, 0, none⟩ (.int .i64 6)) (w.heap.size + 1) 25 #[.int .i64 6] := by
  have d1 : w.heap.size ≠ w.heap.size + 1 := (by omega); refine ⟨(keeps_below hb).trans (((KeepsOthers.setCell _ _ _).trans (KeepsOthers.setCell _ _ _)).from _), hn, ((hs.bl.setCell (Nat.le_refl _) _).setCell (by simp) _), ?_, ?_⟩
  · have h1 := Blk.set_ hs.b2 0 (.slice none 0 0); exact (Below.heap_setCell _ _ _ _ (by simp)).trans h1
  · have h1 : Blk (W3.setCell ⟨w.heap.size, 0, none⟩ (.slice none 0 0)) (w.heap.size + 1) 25 #[.int .i64 0] := (Below.heap_setCell _ _ _ _ (by simp)).trans hs.b3; have h2 := Blk.set_ h1 0 (.int .i64 6); simpa using h2
theorem grow_blk {W W' : World} {n1 g : Nat} {t : TypeId} {cs : Array Value} {A : Option Addr} {n c : Nat} {xs : List Value} {row : Option Nat} (hB : Blk W g t cs) (ho : W.ownsRow n1 201 2 (.slice A n c) n xs) (hg : W.grownBy W' row) (hr : row = (Value.slice A n c).ownBlock) (ht : g < n1) : Blk W' g t cs :=
  (MvP.of_grown hg).blk hB fun e => by
    rw [hr] at e; have := (own_lt2 ho e).1; omega
theorem ok_end {w V1 W w5 w6 : World} {n1 : Nat} {fl : List FdV} {pre : List Pc} {ps : ByteArray} {hps : ps.size ≤ 4096} {A : Option Addr} {n c g' cap' : Nat} {q : Bool} {sv : ByteArray} {o : Obj} {a : Act}
    {Ix : Code → List Pc → World → Prop} (hn1 : n1 = w.heap.size + 6) (h2 : V1.heap.size = n1) (hq : SpI w n1 W fl) (hb : Below W.heap.size W w5) (hs : SpI w n1 w5 fl)
    (ho : w5.ownsRow n1 201 2 (.slice A n c) n (fl.flatMap fdC)) (hb4 : Blk w5 (w.heap.size + 2) 148 #[.slice A n c])
    (hg : (w5.alloc o).grownBy w6 (Value.slice A n c).ownBlock) (hw : w6.ownsRow n1 201 2 (.slice (some ⟨g', 0, none⟩) (n + 1) cap') (n + 1) (fl.flatMap fdC ++ [.bool q, .string sv]))
    (h1 : mapO fldP (pcB pre) = some (fl.map fdB)) (h3 : fldP ps.data.toList = some (q, sv.data.toList)) :
    ownPostG V1.heap.size (Kp3 (w.heap.size + 3) (w.heap.size + 4) (w.heap.size + 5)) (fun pre W => ∃ fl, mapO fldP (pcB pre) = some (fl.map fdB) ∧ SpI w n1 W fl) Ix (pre ++ [⟨ps, hps⟩]) W .normal a (w6.setCell ⟨w.heap.size + 2, 0, none⟩ (.slice (some ⟨g', 0, none⟩) (n + 1) cap')) := by
  have hba : Below w5.heap.size w5 (w5.alloc o) := (Below.refl _ _).alloc (Nat.le_refl _) _; have ho' : (w5.alloc o).ownsRow n1 201 2 (.slice A n c) n (fl.flatMap fdC) := World.ownsRow.alloc ho _; have hrow : ∀ k, (Value.slice A n c).ownBlock = some k → n1 ≤ k ∧ k < (w5.alloc o).heap.size := fun k hk => own_lt2 ho' hk
  have hbW : Below W.heap.size W (w5.alloc o) := hb.trans (hba.mono hb.size); have hm := MvP.of_grown hg; have hne : ∀ i, i < n1 → ¬ ((Value.slice A n c).ownBlock = some i) := fun i hi e => by have := (hrow i e).1; omega
  have kb : ∀ {g : Nat} {t : TypeId} {cs : Array Value}, g < n1 → g ≠ w.heap.size + 2 → Blk w5 g t cs → Blk (w6.setCell ⟨w.heap.size + 2, 0, none⟩ (.slice (some ⟨g', 0, none⟩) (n + 1) cap')) g t cs := fun {g t cs} hg1 hg2 hB =>
    (Below.heap_setCell _ _ _ _ (by simpa using hg2)).trans (hm.blk (hB.below hba hB.lt) (hne g hg1))
  have hpos := hq.pos; refine ⟨?_, ?_, fl ++ [(q, sv)], ?_, ?_, kb (by omega) (by omega) hs.b2, kb (by omega) (by omega) hs.b3, ⟨some ⟨g', 0, none⟩, n + 1, cap', ?_, ?_⟩, ?_⟩
  · refine ((keeps_below hbW).trans ((KeepsOthers.of_grownBy hg ?_).from _)).trans ((KeepsOthers.setCell _ _ _).from _); intro j ob hj hob; rcases ho'.2 with ⟨e0, _⟩ | ⟨g, cap, cur, e1, _, hh, _⟩
    · injection e0 with e0 _ _
      subst e0
      cases hj
    · rw [e1] at hj; have hj : g = j := (by injection hj); subst hj; rw [hh] at hob; injection hob with hob
      rw [← hob]; rfl
  · intro i hi; have h4 : i < n1 ∧ i ≠ w.heap.size + 2 := (by rcases hi with rfl | rfl | rfl <;> omega); exact (Below.heap_setCell _ _ _ _ (by simpa using h4.2)).trans ((hm.block i (by have := hbW.size; omega) (hne i h4.1)).trans (hbW.block i (by omega)))
  · rw [pcB, List.map_append, ← pcB, List.map_singleton, mapO_snoc, h1, h3]; simp [fdB]
  · exact (hm.below (hs.bl.trans (hba.mono hs.bl.size)) (Nat.le_trans hs.bl.size hba.size) (fun k hk => by have := (hrow k hk).1; omega)).setCell (p := ⟨w.heap.size + 2, 0, none⟩) (by simp) _
  · have h4 : Blk w6 (w.heap.size + 2) 148 #[.slice A n c] := hm.blk (hb4.below hba hb4.lt) (hne _ (by omega)); have h5 := Blk.set_ h4 0 (.slice (some ⟨g', 0, none⟩) (n + 1) cap'); simpa using h5
  · rw [List.flatMap_append]; refine own_mv (g := w.heap.size + 2) (by simpa [fdC] using hw) (Mv.setCells w6 (w.heap.size + 2) 0 [_]) (fun k hk => ?_); have := (own_lt2 hw hk).1; omega
  · have := hbW.size; have := hm.size; have e : (w6.setCell ⟨w.heap.size + 2, 0, none⟩ (.slice (some ⟨g', 0, none⟩) (n + 1) cap')).heap.size = w6.heap.size := (by simp); rw [e]; omega
theorem own_base {W : World} {base base' size n : Nat} {e : TypeId} {v : Value} {xs : List Value} (h : W.ownsRow base e size v n xs) (hb : base' ≤ base) : W.ownsRow base' e size v n xs := by
  refine ⟨h.1, ?_⟩; rcases h.2 with h | ⟨b, cap, cur, h1, h2, h3⟩
  · exact .inl h
  · exact .inr ⟨b, cap, cur, h1, Nat.le_trans hb h2, h3⟩
theorem two_set {w W Wz : World} {D : Nat} {v2 v2' : Value} {z3 z3' : Value} (b2 : Blk W w.heap.size 148 #[v2]) (b3 : Blk W (w.heap.size + 1) 25 #[z3]) (bl : Below w.heap.size w W) (hK : W.heap[D]? = some (.deferred (some []))) (hD : w.heap.size + 6 ≤ D)
    (hWz : (W.setCell ⟨w.heap.size, 0, none⟩ v2').setCell ⟨w.heap.size + 1, 0, none⟩ z3' = Wz) :
    Wz.heap[D]? = some (.deferred (some [])) ∧ Blk Wz w.heap.size 148 #[v2'] ∧ Blk Wz (w.heap.size + 1) 25 #[z3'] ∧ Below w.heap.size w Wz ∧ MvP (fun i => i = w.heap.size ∨ i = w.heap.size + 1) W Wz := by
  subst hWz; refine ⟨?_, ?_, ?_, ?_, ?_⟩
  · exact (Below.heap_setCell _ _ _ _ (by simp; omega)).trans ((Below.heap_setCell _ _ _ _ (by simp; omega)).trans hK)
  · have h1 := Blk.set_ b2 0 v2'; exact (Below.heap_setCell _ _ _ _ (by simp)).trans h1
  · have h1 : Blk (W.setCell ⟨w.heap.size, 0, none⟩ v2') (w.heap.size + 1) 25 #[z3] := (Below.heap_setCell _ _ _ _ (by simp)).trans b3; have h2 := Blk.set_ h1 0 z3'; exact h2
  · exact (bl.setCell (p := ⟨w.heap.size, 0, none⟩) (Nat.le_refl _) _).setCell (p := ⟨w.heap.size + 1, 0, none⟩) (by simp) _
  · exact ((MvP.of_mv (Mv.setCells W w.heap.size 0 [v2'])).mono (fun _ e => .inl e)).trans ((MvP.of_mv (Mv.setCells (W.setCell ⟨w.heap.size, 0, none⟩ v2') (w.heap.size + 1) 0 [z3'])).mono (fun _ e => .inr e))
theorem two_new (w : World) (z : Int) {Wz : World} (hWz : (w.alloc (.cells #[.slice none 0 0] 148)).alloc (.cells #[.int .i64 z] 25) = Wz) :
    Blk Wz w.heap.size 148 #[.slice none 0 0] ∧ Blk Wz (w.heap.size + 1) 25 #[.int .i64 z] ∧ Below w.heap.size w Wz := by
  obtain ⟨A, hA⟩ : ∃ A, w.alloc (.cells #[.slice none 0 0] 148) = A := ⟨_, rfl⟩; have a1 : Below w.heap.size w A := (by rw [← hA]; exact (Below.refl _ _).alloc (Nat.le_refl _) _); have a2 : A.heap.size = w.heap.size + 1 := (by rw [← hA, World.size_alloc]); have a3 : Blk A w.heap.size 148 #[.slice none 0 0] := (by rw [← hA]; exact Blk.new w _ _); rw [hA] at hWz; have b1 : Below A.heap.size A Wz := (by rw [← hWz]; exact (Below.refl _ _).alloc (Nat.le_refl _) _); exact ⟨a3.below b1 (by omega), by rw [← hWz, ← a2]; exact Blk.new A _ _, a1.trans (b1.mono (by omega))⟩
theorem spl_results {W : World} {tmps : Array Value} {g2 g3 : Nat} {v : Value} {z : Int} (h2 : tmps.getD 2 undef = .pointer (some ⟨g2, 0, none⟩)) (h3 : tmps.getD 3 undef = .pointer (some ⟨g3, 0, none⟩))
    (b2 : Blk W g2 148 #[v]) (b3 : Blk W g3 25 #[.int .i64 z]) : (results Tryz.f88 tmps).run Tryz.prog W = .ok (.tuple #[v, .int .i64 z]) W := by
  have c2 : W.cell? ⟨g2, 0, none⟩ = some v := b2.cell 0; have c3 : W.cell? ⟨g3, 0, none⟩ = some (.int .i64 z) := b3.cell 0; have e2 : tmps[2]?.getD undef = .pointer (some ⟨g2, 0, none⟩) := (by simpa using h2); have e3 : tmps[3]?.getD undef = .pointer (some ⟨g3, 0, none⟩) := (by simpa using h3); simp [results, Tryz.results88, go_sem, e2, e3, c2, c3]
def SpR (s : ByteArray) (n1 : Nat) (e : Ending) (w' : World) : Prop := ∃ (A : Option Addr) (n c : Nat) (fl : List FdV), e = .returned (.tuple #[.slice A n c, .int .i64 (splX s.data.toList).1]) ∧ fl.map fdB = (splX s.data.toList).2 ∧ w'.ownsRow n1 201 2 (.slice A n c) n (fl.flatMap fdC)
set_option maxHeartbeats 6400000 in
set_option maxRecDepth 100000 in
theorem wsplit_any (s : ByteArray) (hs : s.size ≤ 100000000) (w : World) (hX : MXp w 0) : Calls Tryz.prog 88 #[.string s] w fun e w' => SpR s w.heap.size e w' ∧ Below w.heap.size w w' := by
  refine (callsIn_wide (n := 3)).1 ?_; refine callsIn_of_wp_marks Tryz.func88 rfl trivial ?_ rfl; simp only [Tryz.ntmps88, List.size_toArray, List.length_cons, List.length_nil, Nat.reduceAdd, Nat.reduceSub, Array.replicate_succ, Array.replicate_zero, List.push_toArray, List.append_toArray, List.nil_append, List.cons_append]
  by_cases h1 : s.size ≤ 4096
  · have k1 : decide ((4096 : Int) < (s.size : Int)) = false := decide_eq_false (by omega); have k1b : ¬ (4096 : Int) < (s.size : Int) := (by omega)
    by_cases h00 : s = ⟨#[]⟩
    · have k2 : s.toList.isEmpty = true := (by rw [h00, emp_toList]; rfl); have HV : Sl (splX s.data.toList = (0, [])) := ⟨by rw [h00]; rfl⟩; clear h00
      gi_wp2_with fail
      obtain ⟨Wz, hWz⟩ : ∃ Wz, (w.alloc (.cells #[.slice none 0 0] 148)).alloc (.cells #[.int .i64 0] 25) = Wz := ⟨_, rfl⟩; rw [hWz]; obtain ⟨r2, r3, r4⟩ := two_new w 0 hWz; refine ⟨_, spl_results rfl rfl r2 r3, ?_⟩; exact ⟨⟨none, 0, 0, [], by rw [HV.out], by rw [HV.out]; rfl, World.ownsRow_nil _ _ _ _⟩, r4⟩
    · have k2 : s.toList.isEmpty = false := ne_toList h00; obtain ⟨V, hV⟩ : ∃ V, ((w.alloc (.cells #[.slice none 0 0] 148)).alloc (.cells #[.int .i64 0] 25)).alloc (.cells #[.slice none 0 0] 148) = V := ⟨_, rfl⟩; have hV2 : V.heap.size = w.heap.size + 3 := (by rw [← hV, World.size_alloc, World.size_alloc, World.size_alloc])
      have HVI : Sl (Below w.heap.size w V ∧ Blk V w.heap.size 148 #[.slice none 0 0] ∧ Blk V (w.heap.size + 1) 25 #[.int .i64 0] ∧ Blk V (w.heap.size + 2) 148 #[.slice none 0 0] ∧ MXp V 0) := by
        have a1 : Below w.heap.size w (w.alloc (.cells #[.slice none 0 0] 148)) := (Below.refl _ _).alloc (Nat.le_refl _) _; have a2 := Blk.new w 148 #[.slice none 0 0]; obtain ⟨A, hA⟩ : ∃ A, w.alloc (.cells #[.slice none 0 0] 148) = A := ⟨_, rfl⟩; have a3 : A.heap.size = w.heap.size + 1 := (by rw [← hA, World.size_alloc]); rw [hA] at a1 a2 hV; have b1 : Below A.heap.size A (A.alloc (.cells #[.int .i64 0] 25)) := (Below.refl _ _).alloc (Nat.le_refl _) _; have b2 := Blk.new A 25 #[.int .i64 0]; obtain ⟨B, hB⟩ : ∃ B, A.alloc (.cells #[.int .i64 0] 25) = B := ⟨_, rfl⟩; have b3 : B.heap.size = w.heap.size + 2 := (by rw [← hB, World.size_alloc, a3]); rw [hB] at b1 b2 hV; have c1 : Below B.heap.size B (B.alloc (.cells #[.slice none 0 0] 148)) := (Below.refl _ _).alloc (Nat.le_refl _) _; have c2 := Blk.new B 148 #[.slice none 0 0]; rw [hV] at c1 c2; rw [b3] at c2; rw [a3] at b2; have d1 : Below w.heap.size w V := (a1.trans (b1.mono (by omega))).trans (c1.mono (by omega)); exact ⟨d1, (a2.below b1 (by omega)).below c1 (by omega), b2.below c1 (by omega), c2, hX.below d1⟩
      have hPC := pieces_any s V; rw [hV2] at hPC; have HPC : Sl _ := ⟨hPC⟩; clear hPC
      gi_wp2_with fail
      rw [show w.heap.size + 1 + 1 = w.heap.size + 2 from rfl]; refine ⟨trivial, ?_⟩; refine (callsIn_wide.2 HPC.out).mono ?_; rintro e V1 ⟨rfl, p1, p2, p3, p4, p5⟩; rw [show w.heap.size + 3 + 2 = w.heap.size + 5 from rfl] at p4; rw [show w.heap.size + 3 + 1 = w.heap.size + 4 from rfl] at p4 p5
      have HI1 : Sl (SpI w (w.heap.size + 6) V1 [] ∧ MXp V1 0) := by
        obtain ⟨q1, q2, q3, q4, q5⟩ := HVI.out; have hb : Below V.heap.size V V1 := p1.mono (by omega); exact ⟨⟨q1.trans (p1.mono (by omega)), q2.below p1 (by omega), q3.below p1 (by omega), ⟨none, 0, 0, q4.below p1 (by omega), World.ownsRow_nil _ _ _ _⟩, by omega⟩, q5.below hb⟩
      have hsq := pieces_st 2 (by decide) (w.heap.size + 3) (w.heap.size + 4) (w.heap.size + 5) s h1 V1 (by omega) (by omega) ⟨by omega, by omega, by omega⟩ p3 p4 p5; have HSQ : Sl _ := ⟨hsq⟩; have HP2 : Sl (V1.heap.size = w.heap.size + 6) := ⟨p2⟩; clear hsq p1 p2 p3 p4 p5 HPC hV hV2 HVI
      gi_wp2_with fail
      refine rangeSt rfl (by decide) rfl trivial (enters_of Tryz.func169 (by kernel_rfl) rfl) (by rw [HP2.out]; omega) HSQ.out (fun h k => h.trans k) (fun W l o hl => Kp3.put (n := V1.heap.size) (by rw [HP2.out]; omega) (by rw [HP2.out]; omega) (by rw [HP2.out]; omega) W l o hl) (fun x => rfl)
        (fun pre W => ∃ fl, mapO fldP (pcB pre) = some (fl.map fdB) ∧ SpI w (w.heap.size + 6) W fl)
        (fun c pre W => c = .ret ∧ mapO fldP (pcB pre) = none ∧ Below w.heap.size w W ∧ Blk W w.heap.size 148 #[.slice none 0 0] ∧ Blk W (w.heap.size + 1) 25 #[.int .i64 6])
        ?own ?ownx ?ownb ⟨[], rfl, HI1.out.1⟩ ?a1 ?assign ?body ?done ?stop
      case assign =>
        intro l x W K hK
        gi_wp2
        exact hK
      case own =>
        rintro pre A B row ⟨fl, q1, q2⟩ hg hr
        exact ⟨fl, q1, q2.mvp (MvP.of_grown hg) fun k e => by
          obtain ⟨h1, o, h2, h3⟩ := hr k e
          exact ⟨by rw [HP2.out] at h1; omega, .inr ⟨o, h2, NoT.other h3⟩⟩⟩
      case ownb =>
        rintro pre A B ⟨fl, q1, q2⟩ hm; exact ⟨fl, q1, q2.mvp (MvP.of_mv hm) fun k e => ⟨by omega, .inl (by omega)⟩⟩
      case ownx =>
        rintro c pre A B row ⟨q0, q1, q2, q3, q4⟩ hg hr; have hm := MvP.of_grown hg
        have hno : ∀ {g : Nat} {t : TypeId} {cs : Array Value}, Blk A g t cs → ¬ (row = some g) := fun {g t cs} hB e => by
          obtain ⟨_, o, h2, h3⟩ := hr g e; have hB' : A.heap[g]? = some (.cells cs t (0, 0)) := hB; rw [hB'] at h2; injection h2 with h2
          rw [← h2] at h3
          cases h3
        exact ⟨q0, q1, hm.below q2 q2.size (fun k e => by obtain ⟨h1, _⟩ := hr k e; rw [HP2.out] at h1; omega), hm.blk q3 (hno q3), hm.blk q4 (hno q4)⟩
      case body =>
        rintro l pre x W hl ⟨r, hr⟩ ⟨fl, q1, q2⟩ hlen; obtain ⟨ps, hps⟩ := x; have HQ : Sl _ := ⟨And.intro q1 q2⟩; have HPF : Sl _ := ⟨pfxC 34 ps⟩; obtain ⟨Wx, hWx⟩ : ∃ Wx, W.alloc (.cells #[.bool false, .string ps] 201) = Wx := ⟨_, rfl⟩; obtain ⟨g6, hg6⟩ : ∃ g6, W.heap.size = g6 := ⟨_, rfl⟩; have hx1 : Below W.heap.size W Wx := (by rw [← hWx]; exact (Below.refl _ _).alloc (Nat.le_refl _) _); have hx2 : Blk Wx g6 201 #[.bool false, .string ps] := (by rw [← hWx, ← hg6]; exact Blk.new W _ _); have hl2 : l < g6 := (by rw [← hg6]; exact (Array.getElem?_eq_some_iff.1 hr).1); have HX1 : Sl (Below W.heap.size W Wx ∧ W.heap.size = g6 ∧ V1.heap.size ≤ l ∧ l < g6) := ⟨⟨hx1, hg6, hl, hl2⟩⟩; have HX2 : Sl _ := ⟨hx2⟩; clear hx1 hx2 hl hl2 hr q1 q2
        by_cases hq : ps.data.toList.head? = some 34
        · have HPF2 : Sl _ := ⟨HPF.out Wx⟩; rw [decide_eq_true hq] at HPF2
          gi_wp2
          refine ⟨trivial, ?_⟩; refine (CallsIn.inRound l (callsIn_wide.2 HPF2.out)).mono ?_; rintro e w2 ⟨rfl, rfl⟩; clear hWx HPF2 HPF; have HUQ : Sl _ := ⟨wunq_any rplC ps (by omega) w2 (hX.below (HQ.out.2.bl.trans (HX1.out.1.mono HQ.out.2.bl.size)))⟩
          cases hu : unq ps.data.toList with
          | none =>
            have HFL : Sl (fldP ps.data.toList = none) := ⟨by unfold fldP; rw [if_pos hq, hu]; rfl⟩; have hu2 : unqE ps.data.toList = 6 ∧ unqX ps.data.toList = [] := (by unfold unqE unqX; rw [hu]; exact ⟨rfl, rfl⟩); rw [hu2.1, hu2.2] at HUQ; clear hu2 hu
            gi_wp2
            refine ⟨trivial, ?_⟩; refine (CallsIn.inRound l (callsIn_wide.2 HUQ.out)).mono ?_; rintro e w3 ⟨rfl, hb3⟩; have HB3 : Sl _ := ⟨hb3⟩; clear hb3 HUQ; have HS : Sl (SpI w (w.heap.size + 6) w3 fl) := ⟨HQ.out.2.below (HX1.out.1.trans (HB3.out.mono HX1.out.1.size))⟩; have HBW : Sl (Below W.heap.size W w3) := ⟨HX1.out.1.trans (HB3.out.mono HX1.out.1.size)⟩; have z2 : w3.cell? ⟨w.heap.size, 0, none⟩ = some (.slice none 0 0) := HS.out.b2.cell 0; have z3 : w3.cell? ⟨w.heap.size + 1, 0, none⟩ = some (.int .i64 0) := HS.out.b3.cell 0; have f2 : w3.frozen? ⟨w.heap.size, 0, none⟩ = false := HS.out.b2.frozen 0; have f3 : w3.frozen? ⟨w.heap.size + 1, 0, none⟩ = false := HS.out.b3.frozen 0; have HN : Sl (mapO fldP (pcB (pre ++ [⟨ps, hps⟩])) = none) := ⟨by rw [pcB, List.map_append, ← pcB, List.map_singleton, mapO_snoc, HQ.out.1, HFL.out]; rfl⟩
            gi_wp2
            exact ⟨(err_end HP2.out HQ.out.2 HS.out HBW.out HX1.out.2.2.1 HN.out).1, rfl, (err_end HP2.out HQ.out.2 HS.out HBW.out HX1.out.2.2.1 HN.out).2⟩
          | some u =>
            have hut := (unq_iff.1 hu).2; have HFL : Sl (fldP ps.data.toList = some (true, u)) := ⟨by unfold fldP; rw [if_pos hq, hu]; rfl⟩; have hu2 : unqE ps.data.toList = 0 ∧ unqX ps.data.toList = u := (by unfold unqE unqX; rw [hu]; exact ⟨rfl, rfl⟩); have HRT : Sl (fok true (bs u).data.toList = true) := ⟨by rw [bs_by]; exact hut⟩
            have HSV : Sl ((bs u).size ≤ maxLen) := ⟨by
              have : u.length ≤ 200 := by
                unfold txt at hut; simp only [Bool.and_eq_true, decide_eq_true_eq] at hut; exact hut.1
              rw [bs_size]; unfold maxLen; omega⟩
            rw [hu2.1, hu2.2] at HUQ; clear hu2 hu hut
            gi_wp2
            refine ⟨trivial, ?_⟩; refine (CallsIn.inRound l (callsIn_wide.2 HUQ.out)).mono ?_; rintro e w3 ⟨rfl, hb3⟩; have HB3 : Sl _ := ⟨hb3⟩; clear hb3 HUQ; have HB6' : Sl (Blk w3 g6 201 #[.bool false, .string ps]) := ⟨HX2.out.below HB3.out HX2.out.lt⟩; have hth := HB6'.out.there 0 2 (by simp); have y0 : w3.cell? ⟨g6, 0, none⟩ = some (.bool false) := HB6'.out.cell 0; have y1 : w3.cell? ⟨g6, 1, none⟩ = some (.string ps) := HB6'.out.cell 1; have f0 : w3.frozen? ⟨g6, 0, none⟩ = false := HB6'.out.frozen 0; have f1 : w3.frozen? ⟨g6, 1, none⟩ = false := HB6'.out.frozen 1; obtain ⟨w4, hw4⟩ : ∃ w4, (w3.setCell ⟨g6, 0, none⟩ (.bool true)).setCell ⟨g6, 1, none⟩ (.string (bs u)) = w4 := ⟨_, rfl⟩
            have HW4 : Sl (Below W.heap.size W w4 ∧ Blk w4 g6 201 #[.bool true, .string (bs u)]) := ⟨by
              rw [← hw4]; have hW := HX1.out.2.1; refine ⟨((HX1.out.1.trans (HB3.out.mono HX1.out.1.size)).setCell (p := ⟨g6, 0, none⟩) (Nat.le_of_eq hW) _).setCell (p := ⟨g6, 1, none⟩) (Nat.le_of_eq hW) _, ?_⟩; have := Blk.set_ (Blk.set_ HB6'.out 0 (.bool true)) 1 (.string (bs u))
              simpa using this⟩
            have HB6 : Sl (Blk w4 g6 201 #[.bool true, .string (bs u)]) := ⟨HW4.out.2⟩; have HS : Sl (SpI w (w.heap.size + 6) w4 fl) := ⟨HQ.out.2.below (HW4.out.1)⟩; have HBW : Sl (Below W.heap.size W w4) := ⟨HW4.out.1⟩; have y0 : w4.cell? ⟨g6, 0, none⟩ = some (.bool true) := HB6.out.cell 0; have y1 : w4.cell? ⟨g6, 1, none⟩ = some (.string (bs u)) := HB6.out.cell 1; obtain ⟨oA, on, oc, ho1, ho2⟩ := HS.out.out; have HOO : Sl _ := ⟨And.intro ho1 ho2⟩; have HON : Sl (on = fl.length ∧ on ≤ 5000) := ⟨row_len HQ.out.1 ho2 hlen⟩; clear ho1 ho2; have HRC : Sl _ := ⟨wright_any conC true (bs u) HSV.out w4⟩; rw [HRT.out] at HRC
            gi_wp2
            refine ⟨trivial, ?_⟩; refine (CallsIn.inRound l (callsIn_wide.2 HRC.out)).mono ?_; rintro e w5 ⟨rfl, hb5⟩; have HB5 : Sl _ := ⟨hb5⟩; clear hb5 HRC y0 y1; have y0 : w5.cell? ⟨g6, 0, none⟩ = some (.bool true) := (HB6.out.below HB5.out HB6.out.lt).cell 0; have y1 : w5.cell? ⟨g6, 1, none⟩ = some (.string (bs u)) := (HB6.out.below HB5.out HB6.out.lt).cell 1; have y4 : w5.cell? ⟨w.heap.size + 2, 0, none⟩ = some (.slice oA on oc) := (HOO.out.1.below HB5.out HOO.out.1.lt).cell 0; have HOW : Sl (w5.ownsRow (w.heap.size + 6) 201 2 (.slice oA on oc) on (fl.flatMap fdC)) := ⟨(MvP.of_below HB5.out).own HOO.out.2 (fun _ _ e => e)⟩; obtain ⟨ifd, if1, if2, if3, if4⟩ := infoFd; have hon1 : on + 1 ≤ 1000000 := (by have := HON.out.2; omega)
            gi_wp2_with (gi_at_builtin; refine wpListIn_append_own _ rfl (.tmp 33) (.tmp 35) 148 rfl (w.heap.size + 6) 201 ifd _ 2 24 Tryz.underlying148 if1 if2 if3 if4 rfl (by decide) _ on _ rfl (World.ownsRow.alloc HOW.out _) ⟨w5.heap.size, 0, none⟩ 1 1 [.bool true, .string (bs u)] rfl rfl (fd_new w5 true (bs u) _) (fd_one (true, (bs u))) (by unfold maxLen; omega) (by omega) (Nat.le_trans (Nat.le_trans HS.out.pos HB5.out.size) (by simp)) ?_; intro v' w6 hown' hgrow hnil; obtain ⟨g', cap', rfl⟩ := ownsRow_succ hown'; have HZ : Sl _ := ⟨And.intro hown' hgrow⟩; have hk4 := grow_blk ((HOO.out.1.below HB5.out HOO.out.1.lt).below ((Below.refl _ _).alloc (Nat.le_refl _) _) (Nat.lt_of_lt_of_le HOO.out.1.lt HB5.out.size)) (World.ownsRow.alloc HOW.out _) hgrow rfl (by omega); have y5 : w6.cell? ⟨w.heap.size + 2, 0, none⟩ = some (.slice oA on oc) := hk4.cell 0; have f5 : w6.frozen? ⟨w.heap.size + 2, 0, none⟩ = false := hk4.frozen 0; have HK4 : Sl _ := ⟨hk4⟩; clear hown' hgrow hnil y4 hk4)
            exact ok_end rfl HP2.out HQ.out.2 (HBW.out.trans (HB5.out.mono HBW.out.size)) (HS.out.below HB5.out) HOW.out (HOO.out.1.below HB5.out HOO.out.1.lt) HZ.out.2 HZ.out.1 HQ.out.1 (HFL.out.trans (by rw [bs_by]))
        · have HPF2 : Sl _ := ⟨HPF.out Wx⟩; rw [decide_eq_false hq] at HPF2
          by_cases hg : rgt ps.data.toList = true
          · have HFL : Sl (fldP ps.data.toList = some (false, ps.data.toList)) := ⟨by unfold fldP; rw [if_neg hq, if_pos hg]⟩; have HRT : Sl (fok false ps.data.toList = true) := ⟨hg⟩; have HSV : Sl (ps.size ≤ maxLen) := ⟨by unfold maxLen; omega⟩
            gi_wp2
            refine ⟨trivial, ?_⟩; refine (CallsIn.inRound l (callsIn_wide.2 HPF2.out)).mono ?_; rintro e w2 ⟨rfl, rfl⟩; clear hWx HPF2 HPF hg; have HB6 : Sl (Blk w2 g6 201 #[.bool false, .string ps]) := ⟨HX2.out⟩; have HS : Sl (SpI w (w.heap.size + 6) w2 fl) := ⟨HQ.out.2.below (HX1.out.1)⟩; have HBW : Sl (Below W.heap.size W w2) := ⟨HX1.out.1⟩; have y0 : w2.cell? ⟨g6, 0, none⟩ = some (.bool false) := HB6.out.cell 0; have y1 : w2.cell? ⟨g6, 1, none⟩ = some (.string ps) := HB6.out.cell 1; obtain ⟨oA, on, oc, ho1, ho2⟩ := HS.out.out; have HOO : Sl _ := ⟨And.intro ho1 ho2⟩; have HON : Sl (on = fl.length ∧ on ≤ 5000) := ⟨row_len HQ.out.1 ho2 hlen⟩; clear ho1 ho2; have HRC : Sl _ := ⟨wright_any conC false ps HSV.out w2⟩; rw [HRT.out] at HRC
            gi_wp2
            refine ⟨trivial, ?_⟩; refine (CallsIn.inRound l (callsIn_wide.2 HRC.out)).mono ?_; rintro e w5 ⟨rfl, hb5⟩; have HB5 : Sl _ := ⟨hb5⟩; clear hb5 HRC y0 y1; have y0 : w5.cell? ⟨g6, 0, none⟩ = some (.bool false) := (HB6.out.below HB5.out HB6.out.lt).cell 0; have y1 : w5.cell? ⟨g6, 1, none⟩ = some (.string ps) := (HB6.out.below HB5.out HB6.out.lt).cell 1; have y4 : w5.cell? ⟨w.heap.size + 2, 0, none⟩ = some (.slice oA on oc) := (HOO.out.1.below HB5.out HOO.out.1.lt).cell 0; have HOW : Sl (w5.ownsRow (w.heap.size + 6) 201 2 (.slice oA on oc) on (fl.flatMap fdC)) := ⟨(MvP.of_below HB5.out).own HOO.out.2 (fun _ _ e => e)⟩; obtain ⟨ifd, if1, if2, if3, if4⟩ := infoFd; have hon1 : on + 1 ≤ 1000000 := (by have := HON.out.2; omega)
            gi_wp2_with (gi_at_builtin; refine wpListIn_append_own _ rfl (.tmp 33) (.tmp 35) 148 rfl (w.heap.size + 6) 201 ifd _ 2 24 Tryz.underlying148 if1 if2 if3 if4 rfl (by decide) _ on _ rfl (World.ownsRow.alloc HOW.out _) ⟨w5.heap.size, 0, none⟩ 1 1 [.bool false, .string ps] rfl rfl (fd_new w5 false ps _) (fd_one (false, ps)) (by unfold maxLen; omega) (by omega) (Nat.le_trans (Nat.le_trans HS.out.pos HB5.out.size) (by simp)) ?_; intro v' w6 hown' hgrow hnil; obtain ⟨g', cap', rfl⟩ := ownsRow_succ hown'; have HZ : Sl _ := ⟨And.intro hown' hgrow⟩; have hk4 := grow_blk ((HOO.out.1.below HB5.out HOO.out.1.lt).below ((Below.refl _ _).alloc (Nat.le_refl _) _) (Nat.lt_of_lt_of_le HOO.out.1.lt HB5.out.size)) (World.ownsRow.alloc HOW.out _) hgrow rfl (by omega); have y5 : w6.cell? ⟨w.heap.size + 2, 0, none⟩ = some (.slice oA on oc) := hk4.cell 0; have f5 : w6.frozen? ⟨w.heap.size + 2, 0, none⟩ = false := hk4.frozen 0; have HK4 : Sl _ := ⟨hk4⟩; clear hown' hgrow hnil y4 hk4)
            exact ok_end rfl HP2.out HQ.out.2 (HBW.out.trans (HB5.out.mono HBW.out.size)) (HS.out.below HB5.out) HOW.out (HOO.out.1.below HB5.out HOO.out.1.lt) HZ.out.2 HZ.out.1 HQ.out.1 HFL.out
          · have HFL : Sl (fldP ps.data.toList = none) := ⟨by unfold fldP; rw [if_neg hq, if_neg hg]⟩; have HRF : Sl (fok false ps.data.toList = false) := ⟨by show rgt ps.data.toList = false; simpa using hg⟩; have HRC : Sl _ := ⟨fun (W : World) => wright_any conC false ps (by unfold maxLen; omega) W⟩; rw [HRF.out] at HRC
            gi_wp2
            refine ⟨trivial, ?_⟩; refine (CallsIn.inRound l (callsIn_wide.2 HPF2.out)).mono ?_; rintro e w2 ⟨rfl, rfl⟩; clear hWx HPF2 HPF hg; have HRC2 := HRC.out w2; have y0 : w2.cell? ⟨g6, 0, none⟩ = some (.bool false) := HX2.out.cell 0; have y1 : w2.cell? ⟨g6, 1, none⟩ = some (.string ps) := HX2.out.cell 1
            gi_wp2
            refine ⟨trivial, ?_⟩; refine (CallsIn.inRound l (callsIn_wide.2 HRC2)).mono ?_; rintro e w5 ⟨rfl, hb5⟩; have HB5 : Sl _ := ⟨hb5⟩; clear hb5 HRC HRC2 y0 y1; have HS : Sl (SpI w (w.heap.size + 6) w5 fl) := ⟨HQ.out.2.below (HX1.out.1.trans (HB5.out.mono HX1.out.1.size))⟩; have HBW : Sl (Below W.heap.size W w5) := ⟨HX1.out.1.trans (HB5.out.mono HX1.out.1.size)⟩; have z2 : w5.cell? ⟨w.heap.size, 0, none⟩ = some (.slice none 0 0) := HS.out.b2.cell 0; have z3 : w5.cell? ⟨w.heap.size + 1, 0, none⟩ = some (.int .i64 0) := HS.out.b3.cell 0; have f2 : w5.frozen? ⟨w.heap.size, 0, none⟩ = false := HS.out.b2.frozen 0; have f3 : w5.frozen? ⟨w.heap.size + 1, 0, none⟩ = false := HS.out.b3.frozen 0; have HN : Sl (mapO fldP (pcB (pre ++ [⟨ps, hps⟩])) = none) := ⟨by rw [pcB, List.map_append, ← pcB, List.map_singleton, mapO_snoc, HQ.out.1, HFL.out]; rfl⟩
            gi_wp2
            exact ⟨(err_end HP2.out HQ.out.2 HS.out HBW.out HX1.out.2.2.1 HN.out).1, rfl, (err_end HP2.out HQ.out.2 HS.out HBW.out HX1.out.2.2.1 HN.out).2⟩
      case done =>
        rintro D xs W hD hxs ⟨fl, q1, q2⟩ hK; rw [HP2.out] at hD; obtain ⟨oA, on, oc, ho1, ho2⟩ := q2.out; have hne : s.data.toList ≠ [] := fun e => h00 (by rw [← by_bs s, e]; rfl)
        have hlen : s.data.toList.length = s.size := rfl; rw [hxs] at q1
        have hon : on = fl.length := by
          have h2 : ∀ l : List FdV, (l.flatMap fdC).length = l.length * 2 := fun l => by
            induction l with
            | nil => rfl
            | cons r l ih => rw [List.flatMap_cons, List.length_append, ih, List.length_cons]; show 2 + _ = _; omega
          have h3 := ho2.1; rw [h2] at h3; omega
        have z4 : W.cell? ⟨w.heap.size + 2, 0, none⟩ = some (.slice oA on oc) := ho1.cell 0; have z2 : W.cell? ⟨w.heap.size, 0, none⟩ = some (.slice none 0 0) := q2.b2.cell 0; have z3 : W.cell? ⟨w.heap.size + 1, 0, none⟩ = some (.int .i64 0) := q2.b3.cell 0; have f2 : W.frozen? ⟨w.heap.size, 0, none⟩ = false := q2.b2.frozen 0; have f3 : W.frozen? ⟨w.heap.size + 1, 0, none⟩ = false := q2.b3.frozen 0
        by_cases h64 : on ≤ 64
        · have k64 : decide ((64 : Int) < (on : Int)) = false := decide_eq_false (by omega); have k64b : ¬ (64 : Int) < (on : Int) := (by omega); have HV : Sl (splX s.data.toList = (0, fl.map fdB)) := ⟨by unfold splX; rw [if_neg (by omega), if_neg hne, q1]; simp only []; rw [if_neg (by rw [List.length_map]; omega)]⟩; subst hon
          gi_wp2
          obtain ⟨Wz, hWz⟩ : ∃ Wz, (W.setCell ⟨w.heap.size, 0, none⟩ (.slice oA fl.length oc)).setCell ⟨w.heap.size + 1, 0, none⟩ (.int .i64 0) = Wz := ⟨_, rfl⟩; rw [hWz]; obtain ⟨r1, r2, r3, r4, r5⟩ := two_set q2.b2 q2.b3 q2.bl hK hD hWz; refine ⟨by simp, .inl ⟨_, _, rfl, run_takeDeferred r1, ?_⟩⟩; refine ⟨_, spl_results (W := Wz.putObj D (.deferred none)) rfl rfl ((World.putObj_heap_other (by omega)).trans r2) ((World.putObj_heap_other (by omega)).trans r3), ?_⟩; exact ⟨⟨oA, fl.length, oc, fl, by rw [HV.out], by rw [HV.out], own_base (ownsRow_putObj (r5.own ho2 (fun k hk e => by have := (own_lt2 ho2 hk).1; rcases e with e | e <;> omega)) _ r1 rfl) (by omega)⟩, r4.trans (belowK_b (w := w) (Nat.le_refl _) Wz D _ _ (by omega) r1 rfl rfl)⟩
        · have k64 : decide ((64 : Int) < (on : Int)) = true := decide_eq_true (by omega); have k64b : (64 : Int) < (on : Int) := (by omega); have HV : Sl (splX s.data.toList = (3, [])) := ⟨by unfold splX; rw [if_neg (by omega), if_neg hne, q1]; simp only []; rw [if_pos (by rw [List.length_map]; omega)]⟩
          gi_wp2
          obtain ⟨Wz, hWz⟩ : ∃ Wz, (W.setCell ⟨w.heap.size, 0, none⟩ (.slice none 0 0)).setCell ⟨w.heap.size + 1, 0, none⟩ (.int .i64 3) = Wz := ⟨_, rfl⟩; rw [hWz]; obtain ⟨r1, r2, r3, r4, r5⟩ := two_set q2.b2 q2.b3 q2.bl hK hD hWz; refine ⟨by simp, .inl ⟨_, _, rfl, run_takeDeferred r1, ?_⟩⟩; refine ⟨_, spl_results (W := Wz.putObj D (.deferred none)) rfl rfl ((World.putObj_heap_other (by omega)).trans r2) ((World.putObj_heap_other (by omega)).trans r3), ?_⟩; exact ⟨⟨none, 0, 0, [], by rw [HV.out], by rw [HV.out]; rfl, World.ownsRow_nil _ _ _ _⟩, r4.trans (belowK_b (w := w) (Nat.le_refl _) Wz D _ _ (by omega) r1 rfl rfl)⟩
      case stop =>
        rintro D c pre W hD hpre ⟨rfl, q1, q2, q3, q4⟩ hK; rw [HP2.out] at hD; have hne : s.data.toList ≠ [] := fun e => h00 (by rw [← by_bs s, e]; rfl)
        have hlen : s.data.toList.length = s.size := rfl
        have HV : Sl (splX s.data.toList = (6, [])) := ⟨by
          obtain ⟨r, hr⟩ := hpre; unfold splX
          rw [if_neg (by omega), if_neg hne, ← hr, mapO_pre _ _ _ q1]⟩
        gi_wp2
        refine ⟨by simp, .inl ⟨_, _, rfl, run_takeDeferred hK, ?_⟩⟩; refine ⟨_, spl_results (W := W.putObj D (.deferred none)) rfl rfl ((World.putObj_heap_other (by omega)).trans q3) ((World.putObj_heap_other (by omega)).trans q4), ?_⟩; exact ⟨⟨none, 0, 0, [], by rw [HV.out], by rw [HV.out]; rfl, World.ownsRow_nil _ _ _ _⟩, q2.trans (belowK_b (w := w) (Nat.le_refl _) W D _ _ (by omega) hK rfl rfl)⟩
  · have k1 : decide ((4096 : Int) < (s.size : Int)) = true := decide_eq_true (by omega); have k1b : (4096 : Int) < (s.size : Int) := (by omega); have HV : Sl (splX s.data.toList = (3, [])) := ⟨by unfold splX; rw [if_pos (by show 4096 < s.size; omega)]⟩; clear h1
    gi_wp2_with fail
    obtain ⟨Wz, hWz⟩ : ∃ Wz, (w.alloc (.cells #[.slice none 0 0] 148)).alloc (.cells #[.int .i64 3] 25) = Wz := ⟨_, rfl⟩; rw [hWz]; obtain ⟨r2, r3, r4⟩ := two_new w 3 hWz; refine ⟨_, spl_results rfl rfl r2 r3, ?_⟩; exact ⟨⟨none, 0, 0, [], by rw [HV.out], by rw [HV.out]; rfl, World.ownsRow_nil _ _ _ _⟩, r4⟩
end Go.Proofs.YtabkpbbjodfolaaGreatDoor
