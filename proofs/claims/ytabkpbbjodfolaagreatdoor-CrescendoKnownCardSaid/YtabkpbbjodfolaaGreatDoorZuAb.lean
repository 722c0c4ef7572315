/- Rows of integers of a call's own: append, slices.Sort, slices.Compact; package crescendo: both. -/
import Derived.Test.YtabkpbbjodfolaaGreatDoorZuA
import Derived.Sort.OwnSortedInts
import Derived.Lib.AppendZerosOnto
import Derived.Lib.Overlaps
set_option linter.unusedSimpArgs false
set_option linter.unusedVariables false
set_option maxHeartbeats 25600000
set_option maxRecDepth 100000
namespace Go.Proofs.YtabkpbbjodfolaaGreatDoor
open Go.RowKit
theorem grown_of_mv {w w' : World} {g : Nat} (hm : Mv g w w') : w.grownBy w' (some g) := ⟨hm.os, hm.tape, hm.output, hm.size, fun k hk hne => hm.block k hk (fun e => hne (by rw [e]))⟩
theorem grown_of_below {w w' : World} {row : Option Nat} (hb : Below w.heap.size w w') : w.grownBy w' row := ⟨hb.os, hb.tape, hb.output, hb.size, fun k hk _ => hb.block k hk⟩
theorem below_grown {B : Nat} {w0 w w' : World} {row : Option Nat} (h : Below B w0 w) (hg : w.grownBy w' row) (hB : B ≤ w.heap.size) (hr : ∀ k, row = some k → B ≤ k) : Below B w0 w' := by
  obtain ⟨h1, h2, h3, h4, h5⟩ := hg; exact ⟨h1.trans h.os, h2.trans h.tape, h3.trans h.output, Nat.le_trans h.size h4, fun k hk => (h5 k (by omega) (fun e => by have := hr k e.symm; omega)).trans (h.block k hk)⟩
theorem blk_grown {w w' : World} {row : Option Nat} {g : Nat} {t : TypeId} {cs : Array Value} (h : Blk w g t cs) (hg : w.grownBy w' row) (hne : row ≠ some g) : Blk w' g t cs := (hg.block g h.lt (fun e => hne e.symm)).trans h
theorem Lg.grown {b w w' : World} {row : Option Nat} {l : List (Nat × TypeId × Array Value)} (h : Lg b w l) (hg : w.grownBy w' row) (hr : ∀ k, row = some k → b.heap.size ≤ k) (hne : ∀ p ∈ l, row ≠ some p.1) : Lg b w' l :=
  ⟨⟨below_grown h.bl hg h.bl.size hr, fun p hp => blk_grown (h.ld.all p hp) hg (hne p hp), h.ld.ge⟩, h.nd⟩
theorem Lg.set {w W W' : World} {l : List (Nat × TypeId × Array Value)} (h : Lg w W l) (k : Nat) {g : Nat} {t t' : TypeId} {cs cs' : Array Value} (hk : l[k]? = some (g, t, cs)) (hm : Mv g W W') (zb : Blk W' g t' cs') : Lg w W' (l.set k (g, t', cs')) := by
  induction l generalizing k with
  | nil => cases hk
  | cons p l ih =>
    cases k with
    | zero =>
      have e : p = (g, t, cs) := (by simpa using hk); subst e; exact h.upd hm zb
    | succ k =>
      have hk1 : l[k]? = some (g, t, cs) := (by simpa using hk); have h1 := ih h.drop k hk1; have hne : p.1 ≠ g := fun e => (List.nodup_cons.1 h.nd).1 (by rw [e]; exact List.mem_map.2 ⟨_, List.mem_of_getElem? hk1, rfl⟩)
      rw [List.set_cons_succ]; refine ⟨⟨h1.ld.bl, fun q hq => ?_, fun q hq => ?_⟩, ?_⟩
      · rcases List.mem_cons.1 hq with rfl | hq
        · exact (h.ld.all q List.mem_cons_self).mv hm hne
        · exact h1.ld.all q hq
      · rcases List.mem_cons.1 hq with rfl | hq
        · exact h.ld.ge q List.mem_cons_self
        · exact h1.ld.ge q hq
      · have e : (l.set k (g, t', cs')).map Prod.fst = l.map Prod.fst := by
          rw [List.map_set]; apply List.ext_getElem?; intro i
          by_cases hi : i = k
          · subst hi; rw [List.getElem?_set_self (by rw [List.length_map]; exact (List.getElem?_eq_some_iff.1 hk1).1), List.getElem?_map, hk1]; rfl
          · rw [List.getElem?_set_ne (fun e => hi e.symm)]
        rw [List.map_cons, e]; exact h.nd
theorem OI.grown {w w' : World} {row : Option Nat} {base : Nat} {A : Option Addr} {n c : Nat} {l : List Int} (h : OI w base A n c l) (hg : w.grownBy w' row) (hne : ∀ k, (Value.slice A n c).ownBlock = some k → row ≠ some k) : OI w' base A n c l := by
  refine World.ownsRow.kept h hg ?_
  cases hb : (Value.slice A n c).ownBlock with
  | none => exact .inl rfl
  | some k => exact .inr (fun e => hne k hb e.symm)
theorem OI.ne_blk {w : World} {base : Nat} {A : Option Addr} {n c : Nat} {l : List Int} {g : Nat} {t : TypeId} {cs : Array Value} (h : OI w base A n c l) (hB : Blk w g t cs) (ht : 3 ≠ t) : (Value.slice A n c).ownBlock ≠ some g := own_blk_ne h hB ht
theorem OI.nil (w : World) (base : Nat) : OI w base none 0 0 [] := World.ownsRow_nil _ _ _ _
theorem wpList_append_oi {ops : Array Oper} {rest : List Oper} {o : Oper} {a : Act} {w : World} {Q : Exit → Act → World → Prop} (hgd : o.guard = none) (s x : Operand)
    (ho : o.op = .call { callee := .builtin .append, args := #[s, x], argTypes := #[43, 43] })
    (base : Nat) (A : Option Addr) (n c : Nat) (l : List Int) (hs : a.eval s = .slice A n c) (hown : OI w base A n c l)
    (B : Option Addr) (m d : Nat) (k : List Int) (hx : a.eval x = .slice B m d) (hr : II w B m k) (hnm : n + m ≤ 1000000) (hbase : base ≤ w.heap.size)
    (h : ∀ A' c' w', OI w' base A' (n + m) c' (l ++ k) → w.grownBy w' (Value.slice A n c).ownBlock → ((Value.slice A' (n + m) c').ownBlock = (Value.slice A n c).ownBlock ∨ (Value.slice A' (n + m) c').ownBlock = some w.heap.size) → wpList Tryz.prog ops Q rest (a.put o.dst (.slice A' (n + m) c')) w') :
    wpList Tryz.prog ops Q (o :: rest) a w := by
  obtain ⟨i, h1, h2, h3, h4⟩ := infoInt; refine wpList_append_any w hgd s x _ ho base 3 i _ 1 8 Tryz.underlying43 h1 h2 h3 h4 rfl (by decide) _ n _ hs hown w.heap.size B m d (k.map iv) hx hr.2 (fun u hu => ?_) (by unfold maxLen; omega) (by omega) hbase (fun v' w' h5 h6 h7 => ?_)
  · obtain ⟨z, _, rfl⟩ := List.mem_map.1 hu; rfl
  · rw [← List.map_append] at h5; rcases h5.2 with ⟨rfl, h0⟩ | ⟨g, cap, cur, rfl, _⟩
    · have hn0 : n + m = 0 := h0; have e : Value.slice none 0 0 = Value.slice none (n + m) 0 := (by rw [hn0]); rw [e] at h5 h7 ⊢; exact h _ _ _ h5 h6 h7
    · exact h _ _ _ h5 h6 h7
def srtI (l : List Int) : List Int := l.mergeSort fun x y => decide (x ≤ y)
theorem srtI_len (l : List Int) : (srtI l).length = l.length := (List.mergeSort_perm l _).length_eq
theorem sortOI {w : World} {base : Nat} {A : Option Addr} {n c : Nat} {l : List Int} (h : OI w base A n c l) (hn : n ≤ 1000000) :
    Calls Tryz.prog 53 #[.slice A n c] w fun e w' => e = .returned (.tuple #[]) ∧ OI w' base A n c (srtI l) ∧ w.grownBy w' (Value.slice A n c).ownBlock := by
  have hl := h.len; rcases Nat.eq_zero_or_pos n with h0 | h0
  · subst h0; have hl0 : l = [] := List.eq_nil_of_length_eq_zero hl; subst hl0; refine (Tryz.slices_Sort_int_none A c w).mono fun e w' hh => ?_
    obtain ⟨rfl, rfl⟩ := hh; exact ⟨rfl, by rw [show srtI [] = [] by simp [srtI]]; exact h, World.grownBy.refl _ _⟩
  · obtain ⟨hl2, h1 | ⟨g, cap, cur, e1, hbg, hh, hnc, hcm, hcs, htake⟩⟩ := h
    · exact absurd h1.1 (by intro e; injection e with _ e2; omega)
    · injection e1 with e1 e2 e3
      subst e1 e3; rw [Nat.mul_one] at htake; have hlt : g < w.heap.size := (Array.getElem?_eq_some_iff.1 hh).1; subst hl; refine (Tryz.slices_Sort_int g 0 c l w (holds_of_blockI hh htake) hlt (by omega)).mono fun e w' h => ?_
      obtain ⟨h1, n, os, rfl⟩ := h; exact ⟨h1, ownsRow_sortedI (n := n) (os := os) (ts := srtI l) (srtI_len l) hbg hh hnc hcm hcs, grownBy_sortedI _⟩
theorem compactOI {w : World} {base : Nat} {A : Option Addr} {n c : Nat} {l : List Int} (h : OI w base A n c l) (hn : n ≤ 1000000) :
    Calls Tryz.prog 54 #[.slice A n c] w fun e w' => e = .returned (.slice A (Lib.compact l).length c) ∧ II w' A (Lib.compact l).length (Lib.compact l) ∧ (Lib.compact l).length ≤ n ∧ w.grownBy w' (Value.slice A n c).ownBlock := by
  have hl := h.len; have hcl := Lib.compact_length_le l; rcases Nat.eq_zero_or_pos n with h0 | h0
  · subst h0; have hl0 : l = [] := List.eq_nil_of_length_eq_zero hl; subst hl0; refine (Tryz.slices_Compact_int_empty A c w).mono fun e w' hh => ?_
    obtain ⟨rfl, rfl⟩ := hh; exact ⟨rfl, II.nil _ _, Nat.le_refl _, World.grownBy.refl _ _⟩
  · obtain ⟨g, hA⟩ : ∃ g, A = some ⟨g, 0, none⟩ := by
      rcases h.2 with ⟨h1, _⟩ | ⟨g, cap, cur, e1, _⟩
      · exact absurd h1 (by intro e; injection e with _ e2; omega)
      · injection e1 with e1; exact ⟨g, e1⟩
    subst hA; have hown : w.ownsRow base 3 1 (.slice (some ⟨g, 0, none⟩) n c) n (l.map iv) := h
    have hco := Tryz.slices_Compact_int_cells g 0 n c l w (by omega) (by omega) h.cap.1 (fun j hj => by
      rw [Nat.zero_add, hown.cellAt j (by omega), List.getElem?_map, List.getElem?_eq_getElem hj]
      simp [iv, List.getD, List.getElem?_eq_getElem hj]) (fun j hj => by rw [Nat.zero_add]; exact hown.frozenAt j)
    rw [List.take_of_length_le (by omega)] at hco
    obtain ⟨cur, t, hB⟩ : ∃ cur t, Blk w g t cur ∧ n ≤ cur.size := by
      rcases h.2 with ⟨h1, _⟩ | ⟨g', cap, cur, e1, _, hh, hnc, hcm, hcs, _⟩
      · cases h1
      · injection e1 with e1; injection e1 with e1; injection e1 with e1; subst e1
        exact ⟨cur, _, hh, by omega⟩
    refine hco.mono fun e w' hh => ?_
    obtain ⟨rfl, q, rfl⟩ := hh; have hB2 := Blk.setCells (w := w) ((Lib.compact l ++ List.replicate (n - (Lib.compact l).length) 0).map (Value.int .i64)) 0 (w.drewN q) cur (hB.1.drewN q); refine ⟨rfl, ⟨rfl, by simp, fun hp => ⟨⟨g, 0, none⟩, rfl, hB2.lt, fun j u hu => ?_⟩⟩, by omega, grown_of_mv (Mv.trans (Mv.drewN (Mv.refl g w) q) (Mv.setCells _ _ _ _))⟩; rw [Addr.add_mid, Nat.zero_add, hB2.cell j]; have hj : j < (Lib.compact l).length := (by have := (List.getElem?_eq_some_iff.1 hu).1; simpa using this); rw [putA_get _ _ _ _ (by simp; omega), if_pos ⟨Nat.zero_le _, by simp; omega⟩, Nat.sub_zero, List.map_append, List.getElem?_append_left (by simpa using hj)]; exact hu
def botE (o : SpO) (L : List RgV) (r : RgV) : Int := if tabE o L = 0 then regE o r else tabE o L
theorem both_any (o : SpO) (T : Option Addr) (n c : Nat) (L : List RgV) (r : RgV) (w : World) (hM : SpM w o) (hF : SpF o) (hT : TbM w T n c L) (hr : RgM w r) :
    Calls Tryz.prog 52 #[.agg #[.slice o.A1 o.n1 o.c1, .slice o.A2 o.n2 o.c2, .slice o.A3 o.n3 o.c3, .slice o.A4 o.n4 o.c4], .agg #[.slice T n c], .agg #[.slice r.A r.n r.c, .slice r.B r.m r.d]] w fun e w' => e = .returned (.int .i64 (botE o L r)) ∧ Below w.heap.size w w' := by
  have HE : Sl (botE o L r = if tabE o L = 0 then regE o r else tabE o L) := ⟨rfl⟩; have hb1 := (Below.refl w.heap.size w).alloc (Nat.le_refl _) (.cells #[.slice o.A1 o.n1 o.c1, .slice o.A2 o.n2 o.c2, .slice o.A3 o.n3 o.c3, .slice o.A4 o.n4 o.c4] 33); have hb2 := hb1.alloc hb1.size (.cells #[.slice T n c] 53); have hb3 := hb2.alloc hb2.size (.cells #[.slice r.A r.n r.c, .slice r.B r.m r.d] 45); have HB : Sl _ := ⟨hb3⟩; have H1 : Sl _ := ⟨fun (W : World) (hW : Below w.heap.size w W) => crCheck_any o T n c L W (hM.below hW) hF (hT.below hW)⟩; have H2 : Sl _ := ⟨fun (W : World) (hW : Below w.heap.size w W) => registration_any o r W (hr.below hW) hF⟩; have S1 := ((Blk.new w 33 #[.slice o.A1 o.n1 o.c1, .slice o.A2 o.n2 o.c2, .slice o.A3 o.n3 o.c3, .slice o.A4 o.n4 o.c4]).alloc (.cells #[.slice T n c] 53)).alloc (.cells #[.slice r.A r.n r.c, .slice r.B r.m r.d] 45); have R1 := Blk.new ((w.alloc (.cells #[.slice o.A1 o.n1 o.c1, .slice o.A2 o.n2 o.c2, .slice o.A3 o.n3 o.c3, .slice o.A4 o.n4 o.c4] 33)).alloc (.cells #[.slice T n c] 53)) 45 #[.slice r.A r.n r.c, .slice r.B r.m r.d]; rw [show ((w.alloc (.cells #[.slice o.A1 o.n1 o.c1, .slice o.A2 o.n2 o.c2, .slice o.A3 o.n3 o.c3, .slice o.A4 o.n4 o.c4] 33)).alloc (.cells #[.slice T n c] 53)).heap.size = w.heap.size + 1 + 1 by simp] at R1; have HS1 : Sl _ := ⟨S1⟩; have HR1 : Sl _ := ⟨R1⟩; obtain ⟨t, ht⟩ : ∃ t, tabE o L = t := ⟨_, rfl⟩; obtain ⟨g, hg⟩ : ∃ g, regE o r = g := ⟨_, rfl⟩; obtain ⟨v, hv⟩ : ∃ v, botE o L r = v := ⟨_, rfl⟩; rw [ht] at HE H1; rw [hg] at HE H2; rw [hv] at HE ⊢; clear hb1 hb2 hb3 hM hF hT hr ht hg hv S1 R1; go_enter Tryz.func52, Tryz.ntmps52; go_wp2_with fail; generalize ((w.alloc (.cells #[.slice o.A1 o.n1 o.c1, .slice o.A2 o.n2 o.c2, .slice o.A3 o.n3 o.c3, .slice o.A4 o.n4 o.c4] 33)).alloc (.cells #[.slice T n c] 53)).alloc (.cells #[.slice r.A r.n r.c, .slice r.B r.m r.d] 45) = wa at *
  refine (H1.out _ HB.out).mono ?_; rintro e w1 ⟨rfl, hb⟩; have HB1 : Sl _ := ⟨HB.out.trans (hb.mono HB.out.size)⟩; replace HS1 : Sl _ := ⟨HS1.out.below hb HS1.out.lt⟩; replace HR1 : Sl _ := ⟨HR1.out.below hb HR1.out.lt⟩; clear hb HB
  by_cases ht0 : t = 0
  · subst ht0; rw [if_pos rfl] at HE; have s0 := HS1.out.cell 0; have s1 := HS1.out.cell 1; have s2 := HS1.out.cell 2; have s3 := HS1.out.cell 3; have r0 := HR1.out.cell 0; have r1 := HR1.out.cell 1; simp at s0 s1 s2 s3 r0 r1; go_wp2_with fail; refine (H2.out _ HB1.out).mono ?_; rintro e w2 ⟨rfl, hb⟩; have HB2 : Sl _ := ⟨HB1.out.trans (hb.mono HB1.out.size)⟩; clear hb; go_wp2_with fail; go_ret; exact ⟨by rw [HE.out]; rfl, HB2.out⟩
  · rw [if_neg ht0] at HE; have q0 : (t != 0) = true := (by rw [bne_iff_ne]; exact ht0); clear ht0; go_wp2_with fail; go_ret; exact ⟨by rw [HE.out]; rfl, HB1.out⟩
theorem ne_int_reg : 3 ≠ 45 := by decide
theorem Lg.app {b w w' : World} {A : Option Addr} {n c : Nat} {X : List Int} {l : List (Nat × TypeId × Array Value)} (h : Lg b w l) (ho : OI w b.heap.size A n c X) (hg : w.grownBy w' (Value.slice A n c).ownBlock) (ht : ∀ p ∈ l, 3 ≠ p.2.1) : Lg b w' l :=
  h.grown hg (fun k hk => (ho.lt k hk).1) (fun p hp => ho.ne_blk (h.ld.all p hp) (ht p hp))
theorem RgO.app1 {w w' : World} {b : Nat} {r : RgV} {A : Option Addr} {n c : Nat} {X : List Int} (h : RgO w b r) (ho : OI w' b A n c X) (hg : w.grownBy w' (Value.slice r.A r.n r.c).ownBlock) (hat : (Value.slice A n c).ownBlock = (Value.slice r.A r.n r.c).ownBlock ∨ (Value.slice A n c).ownBlock = some w.heap.size) : RgO w' b ⟨A, n, c, X, r.B, r.m, r.d, r.k⟩ := by
  refine ⟨ho, h.c.grown hg (fun k hk e => h.ne k e hk), fun g h1 h2 => ?_⟩; rcases hat with e | e
  · exact h.ne g (by rw [← e]; exact h1) h2
  · rw [e] at h1; injection h1 with h1
    have := (h.c.lt g h2).2; omega
theorem RgO.app2 {w w' : World} {b : Nat} {r : RgV} {A : Option Addr} {n c : Nat} {X : List Int} (h : RgO w b r) (ho : OI w' b A n c X) (hg : w.grownBy w' (Value.slice r.B r.m r.d).ownBlock) (hat : (Value.slice A n c).ownBlock = (Value.slice r.B r.m r.d).ownBlock ∨ (Value.slice A n c).ownBlock = some w.heap.size) : RgO w' b ⟨r.A, r.n, r.c, r.l, A, n, c, X⟩ := by
  refine ⟨h.s.grown hg (fun k hk e => h.ne k hk e), ho, fun g h1 h2 => ?_⟩; rcases hat with e | e
  · exact h.ne g h1 (by rw [← e]; exact h2)
  · rw [e] at h2; injection h2 with h2
    have := (h.s.lt g h1).2; omega
theorem RgO.mv {w w' : World} {b g : Nat} {r : RgV} {t : TypeId} {cs : Array Value} (h : RgO w b r) (hB : Blk w g t cs) (ht : 3 ≠ t) (hm : Mv g w w') : RgO w' b r :=
  ⟨h.s.mv hm (fun k hk e => h.s.ne_blk hB ht (by rw [hk, e])), h.c.mv hm (fun k hk e => h.c.ne_blk hB ht (by rw [hk, e])), h.ne⟩
def uniI (l : List Int) : List Int := Lib.compact (srtI l)
theorem II.at_block {w w' : World} {A : Option Addr} {n : Nat} {l : List Int} (h : II w A n l) (hs : w.heap.size ≤ w'.heap.size) (hb : ∀ ad, A = some ad → w'.heap[ad.block]? = w.heap[ad.block]?) : II w' A n l := by
  refine ⟨h.1, h.2.1, fun hn => ?_⟩; obtain ⟨ad, e, h1, h2⟩ := h.2.2 hn; refine ⟨ad, e, Nat.lt_of_lt_of_le h1 hs, fun j u hu => ?_⟩; rw [← h2 j u hu]; exact World.cell?_of_block (by rw [block_of_add]; exact hb ad e)
theorem OI.addr {w : World} {base : Nat} {A : Option Addr} {n c : Nat} {l : List Int} (h : OI w base A n c l) {ad : Addr} (e : A = some ad) : (Value.slice A n c).ownBlock = some ad.block ∧ ad.block < w.heap.size := by
  subst e; rcases h.2 with ⟨h0, _⟩ | ⟨b, cap, cur, e1, _, hh, _⟩
  · cases h0
  · injection e1 with a b c
    injection a with a
    subst a; exact ⟨rfl, Blk.lt hh⟩
def atE (o : SpO) (L : List RgV) (r : RgV) (pos : Int) : Int := if botE o L r = 0 then (if pos < 0 ∨ (L.length : Int) < pos then 7 else 0) else botE o L r
def atL (o : SpO) (L : List RgV) (r : RgV) (pos : Int) (f : RgV → List Int) : List Int := if atE o L r pos = 0 then uniI (f r ++ ((L.take pos.toNat).map f).flatten) else []
def AtR (o : SpO) (L : List RgV) (r : RgV) (pos : Int) (e : Ending) (w' : World) : Prop :=
  ∃ A n c B m d, e = .returned (.tuple #[.agg #[.slice A n c, .slice B m d], .int .i64 (atE o L r pos)]) ∧ RgM w' ⟨A, n, c, atL o L r pos RgV.l, B, m, d, atL o L r pos RgV.k⟩
theorem AtR.no {o : SpO} {L : List RgV} {r : RgV} {pos : Int} {w' : World} {v : Int} (h : atE o L r pos = v) (hv : v ≠ 0) : AtR o L r pos (.returned (.tuple #[.agg #[.slice none 0 0, .slice none 0 0], .int .i64 v])) w' := by
  refine ⟨none, 0, 0, none, 0, 0, by rw [h], ?_⟩; unfold atL; rw [if_neg (by rw [h]; exact hv), if_neg (by rw [h]; exact hv)]; exact ⟨II.nil _ _, II.nil _ _, ⟨Nat.le_refl _, Nat.zero_le _⟩, ⟨Nat.le_refl _, Nat.zero_le _⟩⟩
theorem flat_take {L : List RgV} {k : Nat} {x : RgV} (f : RgV → List Int) (h : L[k]? = some x) : ((L.take (k + 1)).map f).flatten = ((L.take k).map f).flatten ++ f x := by
  rw [List.take_add_one, h]; simp
theorem At_any (o : SpO) (T : Option Addr) (n c : Nat) (L : List RgV) (pos : Int) (r : RgV) (w : World) (hM : SpM w o) (hF : SpF o) (hT : TbM w T n c L) (hr : RgM w r) (hp : i64 pos) :
    Calls Tryz.prog 17 #[.agg #[.slice o.A1 o.n1 o.c1, .slice o.A2 o.n2 o.c2, .slice o.A3 o.n3 o.c3, .slice o.A4 o.n4 o.c4], .agg #[.slice T n c], .int .i64 pos, .agg #[.slice r.A r.n r.c, .slice r.B r.m r.d]] w fun e w' => AtR o L r pos e w' ∧ Below w.heap.size w w' := by
  have HM : Sl _ := ⟨hM⟩; have HF : Sl _ := ⟨hF⟩; have HT : Sl _ := ⟨hT⟩; have HR : Sl _ := ⟨hr⟩; have HD : Sl (Lg w w []) := ⟨Lg.nil w⟩; have HBT : Sl _ := ⟨fun (W : World) (hW : Below w.heap.size w W) => both_any o T n c L r W (hM.below hW) hF (hT.below hW) (hr.below hW)⟩; obtain ⟨b, hb⟩ : ∃ b, botE o L r = b := ⟨_, rfl⟩; have HBB : Sl _ := ⟨hb⟩; rw [hb] at HBT; have HE : Sl (atE o L r pos = if b = 0 then (if pos < 0 ∨ (n : Int) < pos then 7 else 0) else b) := ⟨by unfold atE; rw [hb, hT.row.len]⟩; clear hM hF hT hr hb; go_enter Tryz.func17, Tryz.ntmps17
  go_upto_region 1 with ((with_reducible show wpList _ _ _ _ _ _); first
    | (refine wpList_box_new 4 rfl rfl 33 (.tmp 0) rfl #[.slice o.A1 o.n1 o.c1, .slice o.A2 o.n2 o.c2, .slice o.A3 o.n3 o.c3, .slice o.A4 o.n4 o.c4] rfl (fun _ => by kernel_rfl) ?_; rintro wa gs zg zm zs zb; replace HD : Sl _ := ⟨HD.out.new zg zm zb⟩; clear zg zm zs zb)
    | (refine wpList_box_new 5 rfl rfl 53 (.tmp 1) rfl #[.slice T n c] rfl (fun _ => by kernel_rfl) ?_; rintro wb gtb zg zm zs zb; replace HD : Sl _ := ⟨HD.out.new zg zm zb⟩; clear zg zm zs zb)
    | (refine wpList_box_new 7 rfl rfl 45 (.tmp 3) rfl #[.slice r.A r.n r.c, .slice r.B r.m r.d] rfl (fun _ => by kernel_rfl) ?_; rintro wc grg zg zm zs zb; replace HD : Sl _ := ⟨HD.out.new zg zm zb⟩; clear zg zm zs zb)
    | (refine wpList_alloc_new 8 rfl rfl 45 rfl #[.slice none 0 0, .slice none 0 0] alloc_reg ?_; rintro wd gr8 zg zm zs zb; replace HD : Sl _ := ⟨HD.out.new zg zm zb⟩; clear zg zm zs zb))
  have s0 := (HD.out.at_ 3 rfl).cell 0; have s1 := (HD.out.at_ 3 rfl).cell 1; have s2 := (HD.out.at_ 3 rfl).cell 2; have s3 := (HD.out.at_ 3 rfl).cell 3; simp at s0 s1 s2 s3; have t0 := (HD.out.at_ 2 rfl).cell 0; simp at t0; have r0 := (HD.out.at_ 1 rfl).cell 0; have r1 := (HD.out.at_ 1 rfl).cell 1; simp at r0 r1; go_wp2_with fail; refine (HBT.out _ HD.out.bl).mono ?_; rintro e w1 ⟨rfl, hb⟩; replace HD : Sl _ := ⟨HD.out.below hb⟩; clear HBT hb s0 s1 s2 s3 t0 r0 r1
  by_cases hb0 : b = 0
  · subst hb0; rw [if_pos rfl] at HE; have t0 := (HD.out.at_ 2 rfl).cell 0; simp at t0; have hnn : (0 : Int) ≤ (n : Int) := (by omega)
    by_cases p1 : pos < 0
    · have p1d : decide (pos < 0) = true := decide_eq_true p1; have HV : Sl (atE o L r pos = 7) := ⟨by rw [HE.out]; exact if_pos (.inl p1)⟩
      go_wp2_with ((with_reducible show wpList _ _ _ _ _ _); first
        | (refine wpList_store_whole rfl 45 (.tmp 8) (.tmp 31) rfl gr8 #[.slice none 0 0, .slice none 0 0] rfl rfl 45 _ (HD.out.at_ 0 rfl) rfl (by kernel_rfl) (by simp [Value.oneCell']) ?_; rintro w2 zm zs zb; replace HD : Sl _ := ⟨HD.out.upd zm zb⟩; clear zm zs zb))
      refine bodyPost_ret (results_row2c rfl _ _ gr8 _ _ _ rfl (HD.out.at_ 0 rfl) Tryz.underlying45 rfl (by kernel_rfl)) rfl ?_; exact ⟨AtR.no HV.out (by decide), HD.out.bl⟩
    · have p1d : decide (pos < 0) = false := decide_eq_false p1
      by_cases p2 : (n : Int) < pos
      · have p2d : decide ((n : Int) < pos) = true := decide_eq_true p2; have HV : Sl (atE o L r pos = 7) := ⟨by rw [HE.out]; exact if_pos (.inr p2)⟩
        go_wp2_with ((with_reducible show wpList _ _ _ _ _ _); first
          | (refine wpList_store_whole rfl 45 (.tmp 8) (.tmp 31) rfl gr8 #[.slice none 0 0, .slice none 0 0] rfl rfl 45 _ (HD.out.at_ 0 rfl) rfl (by kernel_rfl) (by simp [Value.oneCell']) ?_; rintro w2 zm zs zb; replace HD : Sl _ := ⟨HD.out.upd zm zb⟩; clear zm zs zb))
        refine bodyPost_ret (results_row2c rfl _ _ gr8 _ _ _ rfl (HD.out.at_ 0 rfl) Tryz.underlying45 rfl (by kernel_rfl)) rfl ?_; exact ⟨AtR.no HV.out (by decide), HD.out.bl⟩
      · have p2d : decide ((n : Int) < pos) = false := decide_eq_false p2; have HV : Sl (atE o L r pos = 0) := ⟨by rw [HE.out, if_neg (by omega)]⟩; obtain ⟨p, rfl⟩ := Int.eq_ofNat_of_zero_le (show 0 ≤ pos by omega); have hpn : p ≤ n := (by omega); have hpN : (p : Int) ≤ (n : Int) := (by omega); have hpc : (p : Int) ≤ (c : Int) := (by have := HT.out.cap.1; omega); have hpc2 : p ≤ c := (by omega); have HPN : Sl (p ≤ n) := ⟨hpn⟩
        have HOK : Sl ((tabE o L = 0 ∧ regE o r = 0)) := ⟨by
          have h := HBB.out; unfold botE at h
          by_cases h1 : tabE o L = 0
          · rw [if_pos h1] at h; exact ⟨h1, h⟩
          · rw [if_neg h1] at h; exact absurd h h1⟩
        have HSP : Sl (specE o = 0 ∧ n ≤ 60 ∧ ∀ j, j < n → regE o (L[j]?.getD rg0) = 0) := ⟨by
          have h := HOK.out.1; unfold tabE at h
          by_cases h1 : specE o = 0
          · rw [if_pos h1, HT.out.row.len] at h
            by_cases h2 : 60 < n
            · rw [if_pos h2] at h; cases h
            · rw [if_neg h2] at h; refine ⟨h1, by omega, fun j hj => ?_⟩; have h3 := fstE_zero h j (Nat.zero_le _) (by omega); unfold tabK at h3
              by_cases h4 : regE o (L[j]?.getD rg0) = 0
              · exact h4
              · rw [if_neg h4] at h3; exact absurd h3 h4
          · rw [if_neg h1] at h; exact absurd h h1⟩
        have HLR : Sl (∀ j x, j < n → L[j]? = some x → x.n ≤ 80 ∧ x.m ≤ 80) := ⟨fun j x hj hx => by
          have h := HSP.out.2.2 j hj; rw [hx, Option.getD_some] at h; obtain ⟨h1, h2⟩ := regE_ok h; have h3 := drwE_len h1; have h4 := drwE_len h2; have h5 := specE_bd HSP.out.1; have h6 := (HT.out.all x (List.mem_of_getElem? hx)).s.1; have h7 := (HT.out.all x (List.mem_of_getElem? hx)).c.1
          omega⟩
        have HRL : Sl (r.n ≤ 80 ∧ r.m ≤ 80) := ⟨by
          obtain ⟨h1, h2⟩ := regE_ok HOK.out.2; have h3 := drwE_len h1; have h4 := drwE_len h2; have h5 := specE_bd HSP.out.1; have h6 := HR.out.s.1; have h7 := HR.out.c.1
          omega⟩
        have r0 := (HD.out.at_ 1 rfl).cell 0; have r1 := (HD.out.at_ 1 rfl).cell 1; simp at r0 r1; go_wp2_with fail; refine (copied_any r w1 (HR.out.below HD.out.bl) (by have := HRL.out; omega) (by have := HRL.out; omega)).mono ?_; rintro e w2 ⟨⟨A0, c0, B0, d0, rfl, ho⟩, hb⟩; have HRO : Sl (RgO w2 w.heap.size ⟨A0, r.n, c0, r.l, B0, r.m, d0, r.k⟩) := ⟨⟨ho.s.mono HD.out.bl.size, ho.c.mono HD.out.bl.size, ho.ne⟩⟩; replace HD : Sl _ := ⟨HD.out.below hb⟩; clear ho hb r0 r1 t0
        go_upto_region 7 with ((with_reducible show wpList _ _ _ _ _ _); first
          | (refine wpList_alloc_new 11 rfl rfl 45 rfl #[.slice none 0 0, .slice none 0 0] alloc_reg ?_; rintro w3 go zg zm zs zb; replace HRO : Sl (RgO _ _ _) := ⟨HRO.out.below (below_mv (Below.refl _ _) zm (Nat.le_refl _) (Nat.le_refl _))⟩; replace HD : Sl _ := ⟨HD.out.new zg zm zb⟩; clear zg zm zs zb)
          | (refine wpList_store_whole rfl 45 (.tmp 11) (.tmp 33) rfl go #[.slice A0 r.n c0, .slice B0 r.m d0] rfl rfl 45 _ (HD.out.at_ 0 rfl) rfl (by kernel_rfl) (by simp [Value.oneCell']) ?_; rintro w4 zm zs zb; replace HRO : Sl (RgO _ _ _) := ⟨HRO.out.mv (HD.out.at_ 0 rfl) (by decide) zm⟩; replace HD : Sl _ := ⟨HD.out.upd zm zb⟩; clear zm zs zb))
        have t0 := (HD.out.at_ 3 rfl).cell 0; simp at t0; go_wp2_with fail; clear t0
        replace HD : Sl (Lg w w4 [(go, 45, #[.slice A0 r.n c0, .slice B0 r.m d0]), (gr8, 45, #[.slice none 0 0, .slice none 0 0])]) := ⟨⟨⟨HD.out.bl, fun q hq => HD.out.ld.all q (by simp at hq ⊢; rcases hq with h | h <;> simp [h]), fun q hq => HD.out.ld.ge q (by simp at hq ⊢; rcases hq with h | h <;> simp [h])⟩, by
          have := HD.out.nd; simp at this ⊢
          exact this.1.1⟩⟩
        go_loopw [39] (fun s39 wv => ∃ (k : Nat) (A : Option Addr) (na ca : Nat) (B : Option Addr) (mb db : Nat), k ≤ p ∧ s39 = .int .i64 k ∧ (na ≤ 80 * (k + 1) ∧ mb ≤ 80 * (k + 1)) ∧ Sl (Lg w wv [(go, 45, #[.slice A na ca, .slice B mb db]), (gr8, 45, #[.slice none 0 0, .slice none 0 0])] ∧ RgO wv w.heap.size ⟨A, na, ca, r.l ++ ((L.take k).map RgV.l).flatten, B, mb, db, r.k ++ ((L.take k).map RgV.k).flatten⟩)) (fun s39 _ => p - (RowKit.intOf s39).toNat)
        case atStart => exact ⟨0, A0, r.n, c0, B0, r.m, d0, Nat.zero_le _, rfl, by have := HRL.out; omega, ⟨HD.out, by simpa using HRO.out⟩⟩
        case round =>
          clear HD HRO; obtain ⟨k, A, na, ca, B, mb, db, hk, rfl, hnm, HK⟩ := hrel; have HD : Sl _ := ⟨HK.out.1⟩; have HRO : Sl _ := ⟨HK.out.2⟩; have HNM : Sl _ := ⟨hnm⟩; clear HK hnm; have hp60 : (p : Int) ≤ 60 := (by have := HSP.out.2.1; omega)
          by_cases hkp : k < p
          · have hkI : decide ((k : Int) < (p : Int)) = true := decide_eq_true (by omega); have hkI2 : (k : Int) < (p : Int) := (by omega); obtain ⟨gb, oo, x, hA, hgb, hx, x0, x1⟩ := (HT.out.below HD.out.bl).at_ (show k < n by omega); have HXM : Sl _ := ⟨HT.out.all x (List.mem_of_getElem? hx)⟩; have HX8 : Sl _ := ⟨HLR.out k x (by omega) hx⟩; have HFL : Sl (((L.take (k + 1)).map RgV.l).flatten = ((L.take k).map RgV.l).flatten ++ x.l ∧ ((L.take (k + 1)).map RgV.k).flatten = ((L.take k).map RgV.k).flatten ++ x.k) := ⟨flat_take _ hx, flat_take _ hx⟩; have HNA : Sl (na + x.n ≤ 1000000 ∧ mb + x.m ≤ 1000000 ∧ na + x.n ≤ 80 * (k + 1 + 1) ∧ mb + x.m ≤ 80 * (k + 1 + 1)) := ⟨by have := HX8.out; have := HNM.out; have := HSP.out.2.1; omega⟩; rw [hA]; have HA : Sl _ := ⟨hA⟩; obtain ⟨X, hX⟩ : ∃ X, r.l ++ ((L.take k).map RgV.l).flatten = X := ⟨_, rfl⟩; obtain ⟨Y, hY⟩ : ∃ Y, r.k ++ ((L.take k).map RgV.k).flatten = Y := ⟨_, rfl⟩; rw [hX, hY] at HRO; have HXY : Sl (r.l ++ ((L.take (k + 1)).map RgV.l).flatten = X ++ x.l ∧ r.k ++ ((L.take (k + 1)).map RgV.k).flatten = Y ++ x.k) := ⟨by rw [HFL.out.1, HFL.out.2, ← hX, ← hY, List.append_assoc, List.append_assoc]; exact ⟨rfl, rfl⟩⟩; clear hA hx hX hY HFL
            go_upto_region 10 with ((with_reducible show wpList _ _ _ _ _ _); first
              | (refine wpList_alloc_new 13 rfl rfl 45 rfl #[.slice none 0 0, .slice none 0 0] alloc_reg ?_; rintro w5 gx zg zm zs zb; replace HRO : Sl (RgO _ _ _) := ⟨HRO.out.below (below_mv (Below.refl _ _) zm (Nat.le_refl _) (Nat.le_refl _))⟩; replace HD : Sl _ := ⟨HD.out.new zg zm zb⟩; clear zg zm zs zb)
              | (refine wpList_store_whole rfl 45 (.tmp 13) (.tmp 42) rfl gx #[.slice x.A x.n x.c, .slice x.B x.m x.d] rfl rfl 45 _ (HD.out.at_ 0 rfl) rfl (by kernel_rfl) (by simp [Value.oneCell']) ?_; rintro w6 zm zs zb; replace HRO : Sl (RgO _ _ _) := ⟨HRO.out.mv (HD.out.at_ 0 rfl) (by decide) zm⟩; replace HD : Sl _ := ⟨HD.out.upd zm zb⟩; clear zm zs zb))
            have g0 := (HD.out.at_ 1 rfl).cell 0; have y0 := (HD.out.at_ 0 rfl).cell 0; simp at g0 y0; clear x0 x1
            go_upto_region 11 with ((with_reducible show wpList _ _ _ _ _ _); first
              | (at_builtin; go_loud (refine wpList_append_oi rfl (.tmp 44) (.tmp 46) rfl w.heap.size A na ca X rfl HRO.out.s x.A x.n x.c x.l rfl (HXM.out.s.below HD.out.bl) HNA.out.1 HD.out.bl.size ?_); rintro A2 c2 w7 zo zg zt; replace HD : Sl _ := ⟨HD.out.app HRO.out.s zg (by intro q hq; simp only [List.mem_cons, List.not_mem_nil, or_false] at hq; rcases hq with rfl | rfl | rfl <;> exact ne_int_reg)⟩; replace HRO : Sl _ := ⟨HRO.out.app1 zo zg zt⟩; clear zo zg zt)
              | (refine wpList_store_cell rfl 43 (.tmp 48) (.tmp 47) rfl go 0 (.slice A2 (na + x.n) c2) rfl rfl 45 _ _ (HD.out.at_ 1 rfl) (by simp) rfl (by kernel_rfl) rfl rfl ?_; rintro w8 zm zs zb zw; replace HRO : Sl _ := ⟨HRO.out.mv (HD.out.at_ 1 rfl) (by decide) zm⟩; replace HD : Sl (Lg w w8 [(gx, 45, #[.slice x.A x.n x.c, .slice x.B x.m x.d]), (go, 45, #[.slice A2 (na + x.n) c2, .slice B mb db]), (gr8, 45, #[.slice none 0 0, .slice none 0 0])]) := ⟨HD.out.set 1 rfl zm zb⟩; clear zm zs zb zw))
            have g1 := (HD.out.at_ 1 rfl).cell 1; have y1 := (HD.out.at_ 0 rfl).cell 1; simp at g1 y1; clear g0 y0
            go_upto_region 12 with ((with_reducible show wpList _ _ _ _ _ _); first
              | (at_builtin; go_loud (refine wpList_append_oi rfl (.tmp 50) (.tmp 52) rfl w.heap.size B mb db Y rfl HRO.out.c x.B x.m x.d x.k rfl (HXM.out.c.below HD.out.bl) HNA.out.2.1 HD.out.bl.size ?_); rintro A3 c3 w9 zo zg zt; replace HD : Sl _ := ⟨HD.out.app HRO.out.c zg (by intro q hq; simp only [List.mem_cons, List.not_mem_nil, or_false] at hq; rcases hq with rfl | rfl | rfl <;> exact ne_int_reg)⟩; replace HRO : Sl _ := ⟨HRO.out.app2 zo zg zt⟩; clear zo zg zt)
              | (refine wpList_store_cell rfl 43 (.tmp 54) (.tmp 53) rfl go 1 (.slice A3 (mb + x.m) c3) rfl rfl 45 _ _ (HD.out.at_ 1 rfl) (by simp) rfl (by kernel_rfl) rfl rfl ?_; rintro wA zm zs zb zw; replace HRO : Sl _ := ⟨HRO.out.mv (HD.out.at_ 1 rfl) (by decide) zm⟩; replace HD : Sl (Lg w wA [(gx, 45, #[.slice x.A x.n x.c, .slice x.B x.m x.d]), (go, 45, #[.slice A2 (na + x.n) c2, .slice A3 (mb + x.m) c3]), (gr8, 45, #[.slice none 0 0, .slice none 0 0])]) := ⟨HD.out.set 1 rfl zm zb⟩; clear zm zs zb zw))
            clear g1 y1; go_wp2_with fail; exact ⟨⟨k + 1, A2, na + x.n, c2, A3, mb + x.m, c3, by omega, by go_num, ⟨HNA.out.2.2.1, HNA.out.2.2.2⟩, ⟨HD.out.drop, by rw [HXY.out.1, HXY.out.2]; exact HRO.out⟩⟩, by simp [RowKit.intOf]; omega⟩
          · obtain rfl : k = p := (by omega); obtain ⟨X, hX⟩ : ∃ X, r.l ++ ((L.take k).map RgV.l).flatten = X := ⟨_, rfl⟩; obtain ⟨Y, hY⟩ : ∃ Y, r.k ++ ((L.take k).map RgV.k).flatten = Y := ⟨_, rfl⟩; rw [hX, hY] at HRO
            have HLL : Sl (atL o L r (k : Int) RgV.l = uniI X ∧ atL o L r (k : Int) RgV.k = uniI Y) := ⟨by
              unfold atL; rw [if_pos HV.out, if_pos HV.out, show ((k : Int)).toNat = k from rfl, hX, hY]
              exact ⟨rfl, rfl⟩⟩
            have HN1 : Sl (na ≤ 1000000 ∧ mb ≤ 1000000) := ⟨by have := HNM.out; have := HSP.out.2.1; omega⟩; clear hX hY; have g0 := (HD.out.at_ 0 rfl).cell 0; simp at g0; go_wp2_with fail; refine (sortOI HRO.out.s HN1.out.1).mono ?_; rintro e w5 ⟨rfl, zo, zg⟩; replace HD : Sl _ := ⟨HD.out.app HRO.out.s zg (by intro q hq; simp only [List.mem_cons, List.not_mem_nil, or_false] at hq; rcases hq with rfl | rfl <;> exact ne_int_reg)⟩; replace HRO : Sl (RgO w5 w.heap.size ⟨A, na, ca, srtI X, B, mb, db, Y⟩) := ⟨HRO.out.app1 zo zg (.inl rfl)⟩; clear zo zg g0; have g1 := (HD.out.at_ 0 rfl).cell 1; simp at g1; go_wp2_with fail; refine (sortOI HRO.out.c HN1.out.2).mono ?_; rintro e w6 ⟨rfl, zo, zg⟩; replace HD : Sl _ := ⟨HD.out.app HRO.out.c zg (by intro q hq; simp only [List.mem_cons, List.not_mem_nil, or_false] at hq; rcases hq with rfl | rfl <;> exact ne_int_reg)⟩; replace HRO : Sl (RgO w6 w.heap.size ⟨A, na, ca, srtI X, B, mb, db, srtI Y⟩) := ⟨HRO.out.app2 zo zg (.inl rfl)⟩; clear zo zg g1; go_wp2_with fail; have hbd : Below w6.heap.size w6 w6.drew := below_drewN (Below.refl _ _) 1; replace HD : Sl (Lg w w6.drew [(go, 45, #[.slice A na ca, .slice B mb db]), (gr8, 45, #[.slice none 0 0, .slice none 0 0])]) := ⟨HD.out.below hbd⟩; replace HRO : Sl (RgO w6.drew w.heap.size ⟨A, na, ca, srtI X, B, mb, db, srtI Y⟩) := ⟨HRO.out.below hbd⟩; have HC1 : Sl _ := ⟨compactOI HRO.out.s HN1.out.1⟩; have HGO : Sl (go ≠ gr8) := ⟨by have := HD.out.nd; simp at this; exact this⟩; clear hbd; have hm := HD.out.at_ 0 rfl; refine wp_region_held_drew (S := fun w' => Blk w' go 45 #[.slice A na ca, .slice B mb db]) (by kernel_rfl) hm (fun hHeld => ?_); clear hm; refine hS 0 (v := .pointer (some ⟨go, 0, none⟩)) rfl rfl ?_; simp only [pS]
            refine hC 1 (v := .slice A na ca) rfl rfl (fun w' h => by
              have hc := h.cell 0
              go_simp) ?_
            simp only [pS]; refine hS 3 (v := .pointer (some ⟨go, 1, none⟩)) rfl rfl ?_; simp only [pS]
            refine hC 4 (v := .slice B mb db) rfl rfl (fun w' h => by
              have hc := h.cell 1
              go_simp) ?_
            simp only [pS]; refine hO 2 rfl rfl fun K hK => ?_; go_simp; go_at_call 54
            (with_reducible refine (HC1.out).mono ?_)
            rintro e3 w7 ⟨rfl, zi, zl, zg⟩; have HD7 : Sl _ := ⟨HD.out.app HRO.out.s zg (by intro q hq; simp only [List.mem_cons, List.not_mem_nil, or_false] at hq; rcases hq with rfl | rfl <;> exact ne_int_reg)⟩; have HOC : Sl (OI w7 w.heap.size B mb db (srtI Y)) := ⟨HRO.out.c.grown zg (fun g hg e => HRO.out.ne g e hg)⟩; have HI7 : Sl _ := ⟨And.intro zi zl⟩; have HZ7 : Sl (w6.drew.heap.size ≤ w7.heap.size) := ⟨zg.size⟩; have HC2 : Sl _ := ⟨compactOI HOC.out HN1.out.2⟩; clear zi zl zg; refine hK.out _ _ (HD7.out.at_ 0 rfl) (fun hHeld => ?_); clear hK K
            (try simp only [pS])
            refine hO 5 rfl rfl fun K hK => ?_; go_simp; go_at_call 54
            (with_reducible refine (HC2.out).mono ?_)
            rintro e4 w8 ⟨rfl, zi, zl, zg⟩; have HD8 : Sl _ := ⟨HD7.out.app HOC.out zg (by intro q hq; simp only [List.mem_cons, List.not_mem_nil, or_false] at hq; rcases hq with rfl | rfl <;> exact ne_int_reg)⟩; have HI8 : Sl _ := ⟨And.intro zi zl⟩; have HZ8 : Sl (w7.heap.size ≤ w8.heap.size) := ⟨zg.size⟩
            have HJ8 : Sl (II w8 A (uniI X).length (uniI X)) := ⟨HI7.out.1.at_block zg.size (fun ad e => by
              have ha := HRO.out.s.addr e
              exact zg.block ad.block (by have := HI7.out; have hz := HD7.out.bl.size; have := ha.2; have := HZ7.out; omega) (fun e2 => HRO.out.ne ad.block ha.1 e2.symm))⟩
            clear zi zl zg; refine hK.out _ _ (HD8.out.at_ 0 rfl) (fun hHeld => ?_); clear hK K
            (try simp only [pS])
            refine hS 6 (v := .agg #[.slice A (Lib.compact (srtI X)).length ca, .slice B (Lib.compact (srtI Y)).length db]) rfl rfl ?_; simp only [pS]; refine hO 7 rfl rfl fun K hK => ?_; refine wp_store_partm 45 (.tmp 8) (.tmp 68) rfl gr8 0 #[.slice A (Lib.compact (srtI X)).length ca, .slice B (Lib.compact (srtI Y)).length db] rfl rfl 45 _ #[.slice A (Lib.compact (srtI X)).length ca, .slice B (Lib.compact (srtI Y)).length db] (HD8.out.at_ 1 rfl) (by simp) (putA_all _ _ rfl) (by kernel_rfl) (by simp [Value.oneCell']) ?_; rintro w9 zm zs zb; have HZ : Sl _ := ⟨And.intro zm zb⟩; refine hK.out _ _ ((HD8.out.at_ 0 rfl).mv zm HGO.out) (fun hHeld => ?_); clear hK K zm zs zb; simp only [pS]; refine hM 8 (v := .int .i64 0) rfl rfl ?_; simp only [pS]; refine wpAnyH_done (by kernel_rfl) ?_ _; clear hHeld
            (try go_wp2_with fail)
            refine bodyPost_ret (results_row2c rfl _ _ gr8 _ _ _ rfl HZ.out.2 Tryz.underlying45 rfl (by kernel_rfl)) rfl ?_; have hge := HD.out.ld.ge _ (List.mem_cons_of_mem _ List.mem_cons_self); have hbl := HD8.out.at_ 1 rfl; refine ⟨⟨A, _, ca, B, _, db, by rw [HV.out]; rfl, ?_⟩, below_mv HD8.out.bl HZ.out.1 hge HD8.out.bl.size⟩; rw [HLL.out.1, HLL.out.2]; have hcs := HRO.out.s.cap; have hcc := HRO.out.c.cap; refine ⟨HJ8.out.at_block HZ.out.1.size (fun ad e => HZ.out.1.block ad.block ?_ ?_), HI8.out.1.at_block HZ.out.1.size (fun ad e => HZ.out.1.block ad.block ?_ ?_), ⟨Nat.le_trans HI7.out.2 hcs.1, hcs.2⟩, ⟨Nat.le_trans HI8.out.2 hcc.1, hcc.2⟩⟩
            · have := (HRO.out.s.addr e).2; have := HZ7.out; have := HZ8.out; omega
            · exact fun e2 => HRO.out.s.ne_blk (HD.out.at_ 1 rfl) (by decide) (by rw [(HRO.out.s.addr e).1, e2])
            · have := (HOC.out.addr e).2; have := HZ8.out; omega
            · exact fun e2 => HOC.out.ne_blk (HD7.out.at_ 1 rfl) (by decide) (by rw [(HOC.out.addr e).1, e2])
  · rw [if_neg hb0] at HE; have q0 : (b != 0) = true := (by rw [bne_iff_ne]; exact hb0); have HB0 : Sl (b ≠ 0) := ⟨hb0⟩; clear hb0
    go_wp2_with ((with_reducible show wpList _ _ _ _ _ _); first
      | (refine wpList_store_whole rfl 45 (.tmp 8) (.tmp 20) rfl gr8 #[.slice none 0 0, .slice none 0 0] rfl rfl 45 _ (HD.out.at_ 0 rfl) rfl (by kernel_rfl) (by simp [Value.oneCell']) ?_; rintro w2 zm zs zb; replace HD : Sl _ := ⟨HD.out.upd zm zb⟩; clear zm zs zb))
    refine bodyPost_ret (results_row2c rfl _ _ gr8 _ _ _ rfl (HD.out.at_ 0 rfl) Tryz.underlying45 rfl (by kernel_rfl)) rfl ?_; exact ⟨AtR.no HE.out HB0.out, HD.out.bl⟩
structure MvP (p : Nat → Prop) (w w' : World) : Prop where
  os : w'.os = w.os
  tape : w'.tape = w.tape
  output : w'.output = w.output
  size : w.heap.size ≤ w'.heap.size
  block : ∀ k, k < w.heap.size → ¬ p k → w'.heap[k]? = w.heap[k]?
theorem MvP.refl (p : Nat → Prop) (w : World) : MvP p w w := ⟨rfl, rfl, rfl, Nat.le_refl _, fun _ _ _ => rfl⟩
theorem MvP.trans2 {p q : Nat → Prop} {a b c : World} (h : MvP p a b) (k : MvP q b c) (hq : ∀ i, i < a.heap.size → q i → p i) : MvP p a c :=
  ⟨k.os.trans h.os, k.tape.trans h.tape, k.output.trans h.output, Nat.le_trans h.size k.size, fun i hi hp => (k.block i (Nat.lt_of_lt_of_le hi h.size) (fun e => hp (hq i hi e))).trans (h.block i hi hp)⟩
theorem MvP.trans {p : Nat → Prop} {a b c : World} (h : MvP p a b) (k : MvP p b c) : MvP p a c := h.trans2 k fun _ _ e => e
theorem MvP.mono {p q : Nat → Prop} {w w' : World} (h : MvP p w w') (hq : ∀ i, p i → q i) : MvP q w w' := ⟨h.os, h.tape, h.output, h.size, fun k hk hn => h.block k hk (fun e => hn (hq k e))⟩
theorem MvP.of_mv {g : Nat} {w w' : World} (h : Mv g w w') : MvP (fun i => i = g) w w' := ⟨h.os, h.tape, h.output, h.size, h.block⟩
theorem MvP.of_below {w w' : World} (h : Below w.heap.size w w') : MvP (fun _ => False) w w' := ⟨h.os, h.tape, h.output, h.size, fun k hk _ => h.block k hk⟩
theorem MvP.of_grown {w w' : World} {row : Option Nat} (h : w.grownBy w' row) : MvP (fun i => row = some i) w w' := ⟨h.os, h.tape, h.output, h.size, fun k hk hn => h.block k hk (fun e => hn e.symm)⟩
theorem MvP.below {p : Nat → Prop} {b : Nat} {w0 w w' : World} (h : MvP p w w') (hb : Below b w0 w) (hs : b ≤ w.heap.size) (hp : ∀ i, p i → b ≤ i) : Below b w0 w' :=
  hb.trans ⟨h.os, h.tape, h.output, h.size, fun k hk => h.block k (Nat.lt_of_lt_of_le hk hs) (fun e => by have := hp k e; omega)⟩
theorem MvP.blk {p : Nat → Prop} {w w' : World} {g : Nat} {t : TypeId} {cs : Array Value} (h : MvP p w w') (hB : Blk w g t cs) (hg : ¬ p g) : Blk w' g t cs := (h.block g hB.lt hg).trans hB
theorem MvP.own {p : Nat → Prop} {w w' : World} {base size n : Nat} {e : TypeId} {v : Value} {xs : List Value} (h : MvP p w w') (ho : w.ownsRow base e size v n xs) (hne : ∀ k, v.ownBlock = some k → ¬ p k) : w'.ownsRow base e size v n xs := by
  refine ⟨ho.1, ?_⟩; rcases ho.2 with h0 | ⟨b, cap, cur, e1, hb, hh, h1⟩
  · exact .inl h0
  · subst e1; exact .inr ⟨b, cap, cur, rfl, hb, (h.block b (Blk.lt (t := e) (cs := cur) hh) (hne b rfl)).trans hh, h1⟩
structure RgI (w : World) (imm : Nat → Prop) (r : RgV) : Prop where
  m : RgM w r
  s : ∀ ad, r.A = some ad → imm ad.block
  c : ∀ ad, r.B = some ad → imm ad.block
theorem RgI.kept {w w' : World} {imm p : Nat → Prop} {r : RgV} (h : RgI w imm r) (hm : MvP p w w') (hp : ∀ i, imm i → ¬ p i) (hl : ∀ i, imm i → i < w.heap.size) : RgI w' imm r :=
  ⟨⟨h.m.s.at_block hm.size (fun ad e => hm.block _ (hl _ (h.s ad e)) (hp _ (h.s ad e))), h.m.c.at_block hm.size (fun ad e => hm.block _ (hl _ (h.c ad e)) (hp _ (h.c ad e))), h.m.sc, h.m.cc⟩, h.s, h.c⟩
theorem RgI.more {w : World} {imm imm' : Nat → Prop} {r : RgV} (h : RgI w imm r) (hi : ∀ i, imm i → imm' i) : RgI w imm' r := ⟨h.m, fun ad e => hi _ (h.s ad e), fun ad e => hi _ (h.c ad e)⟩
theorem RgI.of_own {w : World} {b : Nat} {r : RgV} (h : RgO w b r) : RgI w (fun i => b ≤ i ∧ i < w.heap.size) r :=
  ⟨h.rg, fun ad e => ⟨(h.s.lt _ (h.s.addr e).1).1, (h.s.addr e).2⟩, fun ad e => ⟨(h.c.lt _ (h.c.addr e).1).1, (h.c.addr e).2⟩⟩
def RgV.v (r : RgV) : List Int × List Int := (r.l, r.k)
def ndA (st : Nat → Int) : List Int → Int → Option Int
  | [], p => some p
  | x :: l, p => if st x.toNat = 0 then none else ndA st l (max p (st x.toNat))
theorem ndA_drop {st : Nat → Int} {l : List Int} {j : Nat} (hj : j < l.length) (p : Int) : ndA st (l.drop j) p = if st (gt l j).toNat = 0 then none else ndA st (l.drop (j + 1)) (max p (st (gt l j).toNat)) := by
  have e : gt l j = l[j] := (by rw [gt, List.getElem?_eq_getElem hj]; rfl); rw [List.drop_eq_getElem_cons hj, ndA, e]
def stA (L : List RgV) (f : RgV → List Int) : Nat → Int := (stV 0 (L.map f) (fun _ => 0, 0)).1
def neeF (o : SpO) (L : List RgV) (r : RgV) : Int × Int :=
  if botE o L r = 0 then (match ndA (stA L RgV.l) r.l 0 with
    | none => (0, 4)
    | some p => match ndA (stA L RgV.k) r.k p with
      | none => (0, 4)
      | some q => (q, 0)) else (0, botE o L r)
theorem botE_ok {o : SpO} {L : List RgV} {r : RgV} (h : botE o L r = 0) : tabE o L = 0 ∧ regE o r = 0 := by
  unfold botE at h
  by_cases h1 : tabE o L = 0
  · rw [if_pos h1] at h; exact ⟨h1, h⟩
  · rw [if_neg h1] at h; exact absurd h h1
theorem tabE_ok {o : SpO} {L : List RgV} (h : tabE o L = 0) : specE o = 0 ∧ L.length ≤ 60 ∧ ∀ j, j < L.length → tabK o L j = 0 := by
  unfold tabE at h
  by_cases h1 : specE o = 0
  · rw [if_pos h1] at h
    by_cases h2 : 60 < L.length
    · rw [if_pos h2] at h; cases h
    · rw [if_neg h2] at h; exact ⟨h1, by omega, fun j hj => fstE_zero h j (Nat.zero_le _) (by omega)⟩
  · rw [if_neg h1] at h; exact absurd h h1
theorem tabK_ok {o : SpO} {L : List RgV} {j : Nat} (h : tabK o L j = 0) : regE o (L[j]?.getD rg0) = 0 := by
  unfold tabK at h
  by_cases h4 : regE o (L[j]?.getD rg0) = 0
  · exact h4
  · rw [if_neg h4] at h; exact absurd h h4
theorem tab_regs {o : SpO} {L : List RgV} (h : tabE o L = 0) : ∀ y ∈ L, regE o y = 0 := fun y hy => by
  obtain ⟨j, hj⟩ := List.mem_iff_getElem?.1 hy; have h1 := tabK_ok ((tabE_ok h).2.2 j (List.getElem?_eq_some_iff.1 hj).1); rw [hj, Option.getD_some] at h1; exact h1
theorem tab_ix {o : SpO} {L : List RgV} {w : World} {T : Option Addr} {n c : Nat} (h : tabE o L = 0) (hT : TbM w T n c L) : ∀ y ∈ L, (y.n ≤ 100000 ∧ ∀ j, j < y.n → 0 ≤ gt y.l j ∧ gt y.l j < (o.n3 : Int)) ∧ (y.m ≤ 100000 ∧ ∀ j, j < y.m → 0 ≤ gt y.k j ∧ gt y.k j < (o.n4 : Int)) := fun y hy => by
  obtain ⟨r1, r2⟩ := regE_ok (tab_regs h y hy); have l1 := drwE_len r1; have l2 := drwE_len r2; have hs1 := (hT.all y hy).s.1; have hs2 := (hT.all y hy).c.1; have hbd := specE_bd (tabE_ok h).1; exact ⟨⟨by omega, fun i hi => (drwE_ok r1 (k := i) (by omega)).1⟩, ⟨by omega, fun i hi => (drwE_ok r2 (k := i) (by omega)).1⟩⟩
theorem Needed_any (o : SpO) (T : Option Addr) (n c : Nat) (L : List RgV) (r : RgV) (w : World) (hM : SpM w o) (hF : SpF o) (hT : TbM w T n c L) (hr : RgM w r) :
    Calls Tryz.prog 19 #[.agg #[.slice o.A1 o.n1 o.c1, .slice o.A2 o.n2 o.c2, .slice o.A3 o.n3 o.c3, .slice o.A4 o.n4 o.c4], .agg #[.slice T n c], .agg #[.slice r.A r.n r.c, .slice r.B r.m r.d]] w fun e w' => e = .returned (.tuple #[.int .i64 (neeF o L r).1, .int .i64 (neeF o L r).2]) ∧ Below w.heap.size w w' := by
  have HM : Sl _ := ⟨hM⟩; have HF : Sl _ := ⟨hF⟩; have HT : Sl _ := ⟨hT⟩; have HR : Sl _ := ⟨hr⟩; have HD : Sl (Lg w w []) := ⟨Lg.nil w⟩; have HBT : Sl _ := ⟨fun (W : World) (hW : Below w.heap.size w W) => both_any o T n c L r W (hM.below hW) hF (hT.below hW) (hr.below hW)⟩; obtain ⟨N, hN⟩ : ∃ N, neeF o L r = N := ⟨_, rfl⟩; obtain ⟨b, hb⟩ : ∃ b, botE o L r = b := ⟨_, rfl⟩
  have HE : Sl (N = if b = 0 then (match ndA (stA L RgV.l) r.l 0 with
    | none => (0, 4)
    | some p => match ndA (stA L RgV.k) r.k p with
      | none => (0, 4)
      | some q => (q, 0)) else (0, b)) := ⟨by rw [← hN, ← hb]; rfl⟩
  have HOK : Sl (b = 0 → tabE o L = 0 ∧ regE o r = 0) := ⟨fun h => botE_ok (by rw [hb, h])⟩; rw [hN]; rw [hb] at HBT; clear hM hF hT hr hb hN; go_enter Tryz.func19, Tryz.ntmps19
  go_upto_region 1 with ((with_reducible show wpList _ _ _ _ _ _); first
    | (refine wpList_box_new 3 rfl rfl 33 (.tmp 0) rfl #[.slice o.A1 o.n1 o.c1, .slice o.A2 o.n2 o.c2, .slice o.A3 o.n3 o.c3, .slice o.A4 o.n4 o.c4] rfl (fun _ => by kernel_rfl) ?_; rintro wa gs zg zm zs zb; replace HD : Sl _ := ⟨HD.out.new zg zm zb⟩; clear zg zm zs zb)
    | (refine wpList_box_new 4 rfl rfl 53 (.tmp 1) rfl #[.slice T n c] rfl (fun _ => by kernel_rfl) ?_; rintro wb gtb zg zm zs zb; replace HD : Sl _ := ⟨HD.out.new zg zm zb⟩; clear zg zm zs zb)
    | (refine wpList_box_new 5 rfl rfl 45 (.tmp 2) rfl #[.slice r.A r.n r.c, .slice r.B r.m r.d] rfl (fun _ => by kernel_rfl) ?_; rintro wc grg zg zm zs zb; replace HD : Sl _ := ⟨HD.out.new zg zm zb⟩; clear zg zm zs zb))
  have s0 := (HD.out.at_ 2 rfl).cell 0; have s1 := (HD.out.at_ 2 rfl).cell 1; have s2 := (HD.out.at_ 2 rfl).cell 2; have s3 := (HD.out.at_ 2 rfl).cell 3; simp at s0 s1 s2 s3; have t0 := (HD.out.at_ 1 rfl).cell 0; simp at t0; have r0 := (HD.out.at_ 0 rfl).cell 0; have r1 := (HD.out.at_ 0 rfl).cell 1; simp at r0 r1; go_wp2_with fail; refine (HBT.out _ HD.out.bl).mono ?_; rintro e w1 ⟨rfl, hb⟩; replace HD : Sl _ := ⟨HD.out.below hb⟩; clear HBT hb s0 s1 s2 s3 t0 r0 r1
  by_cases hb0 : b = 0
  · subst hb0; rw [if_pos rfl] at HE; have hok := HOK.out rfl; have HTE : Sl _ := ⟨hok⟩; have HIX : Sl _ := ⟨tab_ix hok.1 HT.out⟩; have HBD : Sl _ := ⟨specE_bd (tabE_ok hok.1).1⟩; have HNN : Sl (n ≤ 60) := ⟨by rw [← HT.out.row.len]; exact (tabE_ok hok.1).2.1⟩
    have HRL : Sl ((r.n ≤ 80 ∧ ∀ j, j < r.n → 0 ≤ gt r.l j ∧ gt r.l j < (o.n3 : Int)) ∧ (r.m ≤ 80 ∧ ∀ j, j < r.m → 0 ≤ gt r.k j ∧ gt r.k j < (o.n4 : Int))) := ⟨by
      obtain ⟨r1, r2⟩ := regE_ok hok.2; have l1 := drwE_len r1; have l2 := drwE_len r2; have hs1 := HR.out.s.1; have hs2 := HR.out.c.1; have hbd := HBD.out
      exact ⟨⟨by omega, fun i hi => (drwE_ok r1 (k := i) (by omega)).1⟩, ⟨by omega, fun i hi => (drwE_ok r2 (k := i) (by omega)).1⟩⟩⟩
    clear hok HOK; have s0 := (HD.out.at_ 2 rfl).cell 0; have s1 := (HD.out.at_ 2 rfl).cell 1; have s2 := (HD.out.at_ 2 rfl).cell 2; have s3 := (HD.out.at_ 2 rfl).cell 3; simp at s0 s1 s2 s3; have t0 := (HD.out.at_ 1 rfl).cell 0; simp at t0; have H1 : Sl _ := ⟨steps_stops T n c L o.n3 w1 (HT.out.below HD.out.bl) (by have := HNN.out; omega) (by have := HBD.out; omega) (fun y hy => (HIX.out y hy).1)⟩; go_wp2_with fail; refine H1.out.mono ?_; rintro e w2 ⟨⟨g1, rfl, hir, _⟩, hb⟩; replace HD : Sl _ := ⟨HD.out.below hb⟩; have HI1 : Sl (IRow w2 g1 o.n3 (stA L RgV.l)) := ⟨hir⟩; clear H1 hir hb s0 s1 s2 s3 t0; have s0 := (HD.out.at_ 2 rfl).cell 0; have s1 := (HD.out.at_ 2 rfl).cell 1; have s2 := (HD.out.at_ 2 rfl).cell 2; have s3 := (HD.out.at_ 2 rfl).cell 3; simp at s0 s1 s2 s3; have t0 := (HD.out.at_ 1 rfl).cell 0; simp at t0; have H1 : Sl _ := ⟨steps_couplers T n c L o.n4 w2 (HT.out.below HD.out.bl) (by have := HNN.out; omega) (by have := HBD.out; omega) (fun y hy => (HIX.out y hy).2)⟩; go_wp2_with fail; refine H1.out.mono ?_; rintro e w3 ⟨⟨g2, rfl, hir, _⟩, hb⟩; replace HD : Sl _ := ⟨HD.out.below hb⟩; have HI2 : Sl (IRow w3 g2 o.n4 (stA L RgV.k)) := ⟨hir⟩; replace HI1 : Sl (IRow w3 g1 o.n3 (stA L RgV.l)) := ⟨HI1.out.below hb HI1.out.lt⟩; clear H1 hir hb s0 s1 s2 s3 t0; have r0 := (HD.out.at_ 0 rfl).cell 0; have r1 := (HD.out.at_ 0 rfl).cell 1; simp at r0 r1; have HRL1 : Sl _ := ⟨HR.out.s.below HD.out.bl⟩; have HRL2 : Sl _ := ⟨HR.out.c.below HD.out.bl⟩; obtain ⟨st, hst⟩ : ∃ st, stA L RgV.l = st := ⟨_, rfl⟩; obtain ⟨ct, hct⟩ : ∃ ct, stA L RgV.k = ct := ⟨_, rfl⟩; rw [hst] at HE HI1; rw [hct] at HE HI2; clear hst hct; obtain ⟨rn, hrn⟩ : ∃ rn, r.n = rn := ⟨_, rfl⟩; obtain ⟨rm, hrm⟩ : ∃ rm, r.m = rm := ⟨_, rfl⟩; obtain ⟨rl, hrl⟩ : ∃ rl, r.l = rl := ⟨_, rfl⟩; obtain ⟨rk, hrk⟩ : ∃ rk, r.k = rk := ⟨_, rfl⟩; obtain ⟨rA, hrA⟩ : ∃ rA, r.A = rA := ⟨_, rfl⟩; obtain ⟨rB, hrB⟩ : ∃ rB, r.B = rB := ⟨_, rfl⟩; rw [hrA, hrn] at r0; rw [hrB, hrm] at r1; rw [hrn, hrm, hrl, hrk] at HRL; rw [hrn, hrl, hrA] at HRL1; rw [hrm, hrk, hrB] at HRL2; rw [hrl, hrk] at HE; rw [hrn, hrm, hrA, hrB]; clear hrn hrm hrl hrk hrA hrB; obtain ⟨rc, hrc⟩ : ∃ rc, r.c = rc := ⟨_, rfl⟩; obtain ⟨rd, hrd⟩ : ∃ rd, r.d = rd := ⟨_, rfl⟩; rw [hrc] at r0 ⊢; rw [hrd] at r1 ⊢; clear hrc hrd; have HRNK : Sl (rn ≤ 80 ∧ rm ≤ 80) := ⟨HRL.out.1.1, HRL.out.2.1⟩; have hrn8 : (rn : Int) ≤ 80 := (by have := HRNK.out; omega); have hrm8 : (rm : Int) ≤ 80 := (by have := HRNK.out; omega); go_wp2_with fail; clear r0; obtain ⟨M, hM⟩ : ∃ M, ndA st rl 0 = M := ⟨_, rfl⟩; rw [hM] at HE; have HMM : Sl _ := ⟨hM⟩; clear hM
    go_loop [13, 44] (fun s13 s44 => ∃ (j : Nat) (p : Int), j ≤ rn ∧ s13 = .int .i64 p ∧ s44 = .int .i64 j ∧ Sl (ndA st (rl.drop j) p = M)) (fun _ s44 => rn - (RowKit.intOf s44).toNat)
    case atStart => exact ⟨0, 0, Nat.zero_le _, rfl, rfl, HMM⟩
    case round =>
      clear HMM; obtain ⟨j, p, hj, rfl, rfl, HJ⟩ := hrel
      by_cases hjn : j < rn
      · have hjI : decide ((j : Int) < (rn : Int)) = true := decide_eq_true (by omega); have hjI2 : (j : Int) < (rn : Int) := (by omega); obtain ⟨ad, hA2, hab, c1⟩ := HRL1.out.cell (j := j) hjn; have hz := HRL.out.1.2 j hjn; have HDR := ndA_drop (st := st) (l := rl) (j := j) (by rw [HRL1.out.1]; exact hjn) p; rw [HJ.out] at HDR; obtain ⟨z, hzz⟩ : ∃ z, gt rl j = z := ⟨_, rfl⟩; rw [hzz] at hz HDR c1; rw [hA2]; clear hzz HJ hA2; obtain ⟨zn, rfl⟩ := Int.eq_ofNat_of_zero_le hz.1; have hzI : (zn : Int) < (o.n3 : Int) := hz.2; have hzN : zn < o.n3 := (by omega); have c2 := HI1.out.cell hzN; rw [Int.toNat_natCast] at HDR; obtain ⟨y, hy⟩ : ∃ y, st zn = y := ⟨_, rfl⟩; rw [hy] at c2 HDR; have HX : Sl _ := ⟨HDR⟩; clear hy hz HDR
        by_cases q1 : y = 0
        · have q1d : (y == 0) = true := (by rw [q1]; rfl); have HV : Sl (M = none) := ⟨by rw [HX.out, if_pos q1]⟩; clear q1; go_wp2_with fail
          (try simp only [Exit.inBlock, Exit.then])
          go_ret2; exact ⟨by rw [HE.out, HV.out]; rfl, HD.out.bl⟩
        · have q1d : (y == 0) = false := (by rw [beq_eq_false_iff_ne]; exact q1); have HV : Sl (ndA st (rl.drop (j + 1)) (max p y) = M) := ⟨by rw [HX.out, if_neg q1]⟩; clear q1; go_wp2_with fail; exact ⟨⟨j + 1, _, by omega, rfl, by go_num, HV⟩, by simp [RowKit.intOf]; omega⟩
      · obtain rfl : j = rn := (by omega); have HV : Sl (M = some p) := ⟨by rw [← HJ.out, ← HRL1.out.1, List.drop_length, ndA]⟩; rw [HV.out] at HE
        replace HE : Sl (N = match ndA ct rk p with
          | none => (0, 4)
          | some q => (q, 0)) := ⟨HE.out⟩
        clear HV HJ; go_wp2_with fail; clear r1; obtain ⟨M2, hM2⟩ : ∃ M2, ndA ct rk p = M2 := ⟨_, rfl⟩; rw [hM2] at HE; have HMM : Sl _ := ⟨hM2⟩; clear hM2
        go_loop [13, 63] (fun s13 s63 => ∃ (j : Nat) (p : Int), j ≤ rm ∧ s13 = .int .i64 p ∧ s63 = .int .i64 j ∧ Sl (ndA ct (rk.drop j) p = M2)) (fun _ s63 => rm - (RowKit.intOf s63).toNat)
        case atStart => exact ⟨0, p, Nat.zero_le _, rfl, rfl, HMM⟩
        case round =>
          clear HMM; obtain ⟨j, p, hj, rfl, rfl, HJ⟩ := hrel
          by_cases hjn : j < rm
          · have hjI : decide ((j : Int) < (rm : Int)) = true := decide_eq_true (by omega); have hjI2 : (j : Int) < (rm : Int) := (by omega); obtain ⟨ad, hA2, hab, c1⟩ := HRL2.out.cell (j := j) hjn; have hz := HRL.out.2.2 j hjn; have HDR := ndA_drop (st := ct) (l := rk) (j := j) (by rw [HRL2.out.1]; exact hjn) p; rw [HJ.out] at HDR; obtain ⟨z, hzz⟩ : ∃ z, gt rk j = z := ⟨_, rfl⟩; rw [hzz] at hz HDR c1; rw [hA2]; clear hzz HJ hA2; obtain ⟨zn, rfl⟩ := Int.eq_ofNat_of_zero_le hz.1; have hzI : (zn : Int) < (o.n4 : Int) := hz.2; have hzN : zn < o.n4 := (by omega); have c2 := HI2.out.cell hzN; rw [Int.toNat_natCast] at HDR; obtain ⟨y, hy⟩ : ∃ y, ct zn = y := ⟨_, rfl⟩; rw [hy] at c2 HDR; have HX : Sl _ := ⟨HDR⟩; clear hy hz HDR
            by_cases q1 : y = 0
            · have q1d : (y == 0) = true := (by rw [q1]; rfl); have HV : Sl (M2 = none) := ⟨by rw [HX.out, if_pos q1]⟩; clear q1; go_wp2_with fail
              (try simp only [Exit.inBlock, Exit.then])
              go_ret2; exact ⟨by rw [HE.out, HV.out]; rfl, HD.out.bl⟩
            · have q1d : (y == 0) = false := (by rw [beq_eq_false_iff_ne]; exact q1); have HV : Sl (ndA ct (rk.drop (j + 1)) (max p y) = M2) := ⟨by rw [HX.out, if_neg q1]⟩; clear q1; go_wp2_with fail; exact ⟨⟨j + 1, _, by omega, rfl, by go_num, HV⟩, by simp [RowKit.intOf]; omega⟩
          · obtain rfl : j = rm := (by omega); have HV : Sl (M2 = some p) := ⟨by rw [← HJ.out, ← HRL2.out.1, List.drop_length, ndA]⟩; go_wp2_with fail; go_ret2; exact ⟨by rw [HE.out, HV.out]; rfl, HD.out.bl⟩
  · rw [if_neg hb0] at HE; have q0 : (b != 0) = true := (by rw [bne_iff_ne]; exact hb0); clear hb0; go_wp2_with fail; go_ret2; exact ⟨by rw [HE.out]; rfl, HD.out.bl⟩
theorem wp_of_runc {P : Program} {op : Oper} {a : Act} {w : World} {K : Act → World → Prop} {Q : Exit → Act → World → Prop} (v : Value) (w' : World) (h : (execOp a.eval op).run P w = .ok (.value v) w') (hk : K (a.put op.dst v) w') : op.wp P a w K Q := by
  unfold Oper.wp; rw [h, Oper.upon_value]; exact hk
def sv (s : ByteArray) : Value := .string s
def SS (w : World) (A : Option Addr) (n : Nat) (l : List ByteArray) : Prop := l.length = n ∧ Reads w w.heap.size 1 A n (l.map sv)
theorem SS.below {w w' : World} {A : Option Addr} {n : Nat} {l : List ByteArray} (h : SS w A n l) (hb : Below w.heap.size w w') : SS w' A n l := ⟨h.1, (h.2.below hb).more hb.size⟩
theorem SS.cell {w : World} {A : Option Addr} {n : Nat} {l : List ByteArray} (h : SS w A n l) {j : Nat} (hj : j < n) : ∃ ad, A = some ad ∧ ad.block < w.heap.size ∧ w.cell? (ad.add j) = some (.string (l[j]?.getD ⟨#[]⟩)) := by
  obtain ⟨ad, e, hb, hc⟩ := h.2.2 (by omega); have hl := h.1; refine ⟨ad, e, hb, hc _ _ ?_⟩; rw [List.getElem?_map, List.getElem?_eq_getElem (by omega)]; rfl
def OS (w : World) (base : Nat) (A : Option Addr) (n c : Nat) (l : List ByteArray) : Prop := w.ownsRow base 9 1 (.slice A n c) n (l.map sv)
section
variable {w w' : World} {base : Nat} {A : Option Addr} {n c : Nat} {l : List ByteArray}
theorem OS.len (h : OS w base A n c l) : l.length = n := by
  have := h.1; simpa using this
theorem OS.ss (h : OS w base A n c l) : SS w A n l := ⟨h.len, Reads.of_own h⟩
theorem OS.nil (w : World) (base : Nat) : OS w base none 0 0 [] := World.ownsRow_nil _ _ _ _
theorem OS.lt (h : OS w base A n c l) : ∀ k, (Value.slice A n c).ownBlock = some k → base ≤ k ∧ k < w.heap.size := World.ownsRow.lt h
theorem OS.alloc (h : OS w base A n c l) (o : Obj) : OS (w.alloc o) base A n c l := World.ownsRow.alloc h o
theorem OS.below (h : OS w base A n c l) (hb : Below w.heap.size w w') : OS w' base A n c l :=
  own_mv h (Mv.of_below hb) (fun k hk => by have := (World.ownsRow.lt h k hk).2; omega)
theorem OS.mv {g : Nat} (h : OS w base A n c l) (hm : Mv g w w') (hne : ∀ k, (Value.slice A n c).ownBlock = some k → k ≠ g) : OS w' base A n c l := own_mv h hm hne
theorem OS.mono {base' : Nat} (h : OS w base A n c l) (hb : base' ≤ base) : OS w base' A n c l :=
  ⟨h.1, h.2.imp id fun ⟨g, cap, cur, h1, h2, h3⟩ => ⟨g, cap, cur, h1, Nat.le_trans hb h2, h3⟩⟩
theorem OS.grown {row : Option Nat} (h : OS w base A n c l) (hg : w.grownBy w' row) (hne : ∀ k, (Value.slice A n c).ownBlock = some k → row ≠ some k) : OS w' base A n c l := by
  refine World.ownsRow.kept h hg ?_
  cases hb : (Value.slice A n c).ownBlock with
  | none => exact .inl rfl
  | some k => exact .inr (fun e => hne k hb e.symm)
theorem OS.cap (h : OS w base A n c l) : n ≤ c ∧ c ≤ maxLen := by
  rcases h.2 with ⟨h0, _⟩ | ⟨b, cap, cur, e1, _, _, h1, h2, _⟩
  · injection h0 with a b c
    subst b c; exact ⟨Nat.le_refl _, by decide⟩
  · injection e1 with a b c
    subst c; exact ⟨h1, h2⟩
theorem OS.ne_blk {g : Nat} {t : TypeId} {cs : Array Value} (h : OS w base A n c l) (hB : Blk w g t cs) (ht : 9 ≠ t) : (Value.slice A n c).ownBlock ≠ some g := own_blk_ne h hB ht
end
theorem SS.made (w : World) (s : ByteArray) (t : TypeId) : SS (w.alloc (.cells #[.string s] t)) (some ⟨w.heap.size, 0, none⟩) 1 [s] := by
  refine ⟨rfl, rfl, fun _ => ⟨⟨w.heap.size, 0, none⟩, rfl, by simp, fun j u hu => ?_⟩⟩
  have hj : j = 0 := by
    have := (List.getElem?_eq_some_iff.1 hu).1; simp at this; exact this
  subst hj; have : u = .string s := (by simpa [sv] using hu.symm); rw [this]; exact (Blk.new w t #[.string s]).cell 0
theorem infoS : ∃ i, Tryz.prog.info? 9 = some i ∧ i.zero = some (.string ⟨#[]⟩) ∧ i.size = 1 ∧ i.bytes = 16 := by
  have h : (Tryz.prog.info? 9).map (fun i => (i.zero, i.size, i.bytes)) = some (some (.string ⟨#[]⟩), 1, 16) := (by kernel_rfl); obtain ⟨i, hi, he⟩ := Option.map_eq_some_iff.1 h; injection he with e1 e2
  injection e2 with e2 e3
  exact ⟨i, hi, e1, e2, e3⟩
theorem wp_append_os {o : Oper} {a : Act} {w : World} {K : Act → World → Prop} {Q : Exit → Act → World → Prop} (s x : Operand)
    (ho : o.op = .call { callee := .builtin .append, args := #[s, x], argTypes := #[130, 130] })
    (base : Nat) (A : Option Addr) (n c : Nat) (l : List ByteArray) (hs : a.eval s = .slice A n c) (hown : OS w base A n c l)
    (B : Option Addr) (m d : Nat) (k : List ByteArray) (hx : a.eval x = .slice B m d) (hr : SS w B m k) (hnm : n + m ≤ 1000000) (hbase : base ≤ w.heap.size)
    (h : ∀ A' c' w', OS w' base A' (n + m) c' (l ++ k) → w.grownBy w' (Value.slice A n c).ownBlock → ((Value.slice A' (n + m) c').ownBlock = (Value.slice A n c).ownBlock ∨ (Value.slice A' (n + m) c').ownBlock = some w.heap.size) → K (a.put o.dst (.slice A' (n + m) c')) w') :
    o.wp Tryz.prog a w K Q := by
  obtain ⟨i, h1, h2, h3, h4⟩ := infoS; refine wp_append_any w s x _ ho base 9 i _ 1 16 Tryz.underlying130 h1 h2 h3 h4 rfl (by decide) _ n _ hs hown w.heap.size B m d (k.map sv) hx hr.2 (fun u hu => ?_) (by unfold maxLen; omega) (by omega) hbase (fun v' w' h5 h6 h7 => ?_)
  · obtain ⟨z, _, rfl⟩ := List.mem_map.1 hu; rfl
  · rw [← List.map_append] at h5; rcases h5.2 with ⟨rfl, h0⟩ | ⟨g, cap, cur, rfl, _⟩
    · have hn0 : n + m = 0 := h0; have e : Value.slice none 0 0 = Value.slice none (n + m) 0 := (by rw [hn0]); rw [e] at h5 h7 ⊢; exact h _ _ _ h5 h6 h7
    · exact h _ _ _ h5 h6 h7
theorem wpList_append_os {ops : Array Oper} {rest : List Oper} {o : Oper} {a : Act} {w : World} {Q : Exit → Act → World → Prop} (hgd : o.guard = none) (s x : Operand)
    (ho : o.op = .call { callee := .builtin .append, args := #[s, x], argTypes := #[130, 130] })
    (base : Nat) (A : Option Addr) (n c : Nat) (l : List ByteArray) (hs : a.eval s = .slice A n c) (hown : OS w base A n c l)
    (B : Option Addr) (m d : Nat) (k : List ByteArray) (hx : a.eval x = .slice B m d) (hr : SS w B m k) (hnm : n + m ≤ 1000000) (hbase : base ≤ w.heap.size)
    (h : ∀ A' c' w', OS w' base A' (n + m) c' (l ++ k) → w.grownBy w' (Value.slice A n c).ownBlock → ((Value.slice A' (n + m) c').ownBlock = (Value.slice A n c).ownBlock ∨ (Value.slice A' (n + m) c').ownBlock = some w.heap.size) → wpList Tryz.prog ops Q rest (a.put o.dst (.slice A' (n + m) c')) w') :
    wpList Tryz.prog ops Q (o :: rest) a w :=
  wpList_plain hgd fun _ hK => wp_append_os s x ho base A n c l hs hown B m d k hx hr hnm hbase fun A' c' w' h2 h3 h4 => hK _ _ (h A' c' w' h2 h3 h4)
theorem grown_trans {a b c : World} {row : Option Nat} (h : a.grownBy b row) (g : b.grownBy c row) : a.grownBy c row := by
  obtain ⟨h1, h2, h3, h4, h5⟩ := h; obtain ⟨g1, g2, g3, g4, g5⟩ := g; exact ⟨g1.trans h1, g2.trans h2, g3.trans h3, Nat.le_trans h4 g4, fun k hk hne => (g5 k (by omega) hne).trans (h5 k hk hne)⟩
def nmSt (o : SpO) (x : SpV) : ByteArray := x.nm ++ ⟨#[64]⟩ ++ (o.ds[x.dv.toNat]?.getD dv0).nm
def snm (o : SpO) : List ByteArray := o.ss.map (nmSt o)
def cnm (o : SpO) : List ByteArray := o.cs.map fun x => ⟨#[43]⟩ ++ x.nm
theorem nmdE_nm {l : Keys} {k nm : ByteArray} (h : nmdE l k nm = 0) : nmB nm = true := by
  unfold nmdE at h
  split at h
  · rename_i h1; exact h1
  · cases h
theorem divE_nm {l : Keys} {x : DvV} (h : divE l x = 0) : nmB x.nm = true := by
  unfold divE at h
  split at h
  · rename_i h1; exact nmdE_nm h1
  · rename_i h1; exact absurd h h1
theorem stpE_nm {nd : Nat} {l : Keys} {x : SpV} (h : stpE nd l x = 0) : nmB x.nm = true := by
  unfold stpE at h
  split at h
  · cases h
  · rename_i h1; simpa using h1
theorem cplE_nm {nd : Nat} {l : Keys} {x : CpV} (h : cplE nd l x = 0) : nmB x.nm = true := by
  unfold cplE at h
  split at h
  · rename_i h1; exact nmdE_nm h1
  · rename_i h1; exact absurd h h1
theorem specE_nm {o : SpO} (h : specE o = 0) : (∀ d ∈ o.ds, nmB d.nm = true) ∧ (∀ x ∈ o.ss, nmB x.nm = true ∧ 0 ≤ x.dv ∧ x.dv < (o.n1 : Int)) ∧ (∀ c ∈ o.cs, nmB c.nm = true) := by
  unfold specE at h
  split at h
  · cases h
  · simp only [] at h
    split at h
    · rename_i h1
      split at h
      · rename_i h2
        split at h
        · rename_i h3; refine ⟨fun d hd => ?_, fun x hx => ?_, fun c hc => ?_⟩
          · obtain ⟨l', h'⟩ := runE_all h1 d hd; exact divE_nm h'
          · obtain ⟨l', h'⟩ := runE_all h3 x hx; unfold stpsE at h'
            split at h'
            · rename_i h4; have := stpE_bd h4; exact ⟨stpE_nm h4, this.1⟩
            · rename_i h4; exact absurd h' h4
          · obtain ⟨l', h'⟩ := runE_all h c hc; exact cplE_nm h'
        · rename_i h3; exact absurd h h3
      · rename_i h2; exact absurd h h2
    · rename_i h1; exact absurd h h1
theorem alloc_coup (w : World) : (Instr.alloc 93 true (.tuple #[])).run Tryz.prog w = .ok (.pointer (some ⟨w.heap.size, 0, none⟩)) (w.alloc (.cells #[.string ⟨#[]⟩, .int .i64 0, .int .i64 0, .int .i64 0, .int .i64 0, .bool false] 93)) := by kernel_rfl
theorem names_any (o : SpO) (w : World) (hM : SpM w o) (hF : SpF o) (hs : specE o = 0) : Calls Tryz.prog 83 #[.agg #[.slice o.A1 o.n1 o.c1, .slice o.A2 o.n2 o.c2, .slice o.A3 o.n3 o.c3, .slice o.A4 o.n4 o.c4]] w fun e w' =>
      (∃ A cA B cB, e = .returned (.tuple #[.slice A o.n3 cA, .slice B o.n4 cB]) ∧ OS w' w.heap.size A o.n3 cA (snm o) ∧ OS w' w.heap.size B o.n4 cB (cnm o)) ∧ Below w.heap.size w w' := by
  have HM : Sl _ := ⟨hM⟩; have HF : Sl _ := ⟨hF⟩; have HNM : Sl _ := ⟨specE_nm hs⟩; have HBD : Sl _ := ⟨specE_bd hs⟩; have HD : Sl (Lg w w []) := ⟨Lg.nil w⟩; clear hM hF hs; go_enter Tryz.func83, Tryz.ntmps83
  go_upto_region 1 with ((with_reducible show wpList _ _ _ _ _ _); first
    | (refine wpList_box_new 1 rfl rfl 33 (.tmp 0) rfl #[.slice o.A1 o.n1 o.c1, .slice o.A2 o.n2 o.c2, .slice o.A3 o.n3 o.c3, .slice o.A4 o.n4 o.c4] rfl (fun _ => by kernel_rfl) ?_; rintro ws gs zg zm zs zb; replace HD : Sl _ := ⟨HD.out.new zg zm zb⟩; clear zg zm zs zb))
  have c2 := (HD.out.at_ 0 rfl).cell 2; simp at c2; have hn3 : (o.n3 : Int) ≤ 80 := (by have := HBD.out; omega); have hn4 : (o.n4 : Int) ≤ 24 := (by have := HBD.out; omega); go_wp2_with fail; clear c2
  go_loopw [2, 11] (fun s2 s11 wv => ∃ (k : Nat) (A : Option Addr) (cA : Nat), k ≤ o.n3 ∧ s2 = .slice A k cA ∧ s11 = .int .i64 k ∧ Sl (Lg w wv [(gs, 33, #[.slice o.A1 o.n1 o.c1, .slice o.A2 o.n2 o.c2, .slice o.A3 o.n3 o.c3, .slice o.A4 o.n4 o.c4])] ∧ OS wv w.heap.size A k cA ((snm o).take k))) (fun _ s11 _ => o.n3 - (RowKit.intOf s11).toNat)
  case atStart => exact ⟨0, none, 0, Nat.zero_le _, rfl, rfl, ⟨HD.out, OS.nil _ _⟩⟩
  case round =>
    clear HD; obtain ⟨k, A, cA, hk, rfl, rfl, HK⟩ := hrel; have HD : Sl _ := ⟨HK.out.1⟩; have HO : Sl _ := ⟨HK.out.2⟩; clear HK
    by_cases hkn : k < o.n3
    · have hkI : decide ((k : Int) < (o.n3 : Int)) = true := decide_eq_true (by omega); have hkI2 : (k : Int) < (o.n3 : Int) := (by omega); obtain ⟨gb, oo, x, hA3, hgb, hx, hra⟩ := (HM.out.s.below HD.out.bl).at_ (by omega) hkn; obtain ⟨hnm, hd0, hd1⟩ := HNM.out.2.1 x (List.mem_of_getElem? hx); obtain ⟨d, hd⟩ := Int.eq_ofNat_of_zero_le hd0; obtain ⟨gb2, oo2, y, hA1, hgb2, hy, hra2⟩ := HM.out.d.at_ (by omega) (i := d) (by omega); have hynm := HNM.out.1 y (List.mem_of_getElem? hy); have hs1 := (nmB_size hnm).2; have hs2 := (nmB_size hynm).2
      have htk : (snm o).take (k + 1) = (snm o).take k ++ [x.nm ++ ⟨#[64]⟩ ++ y.nm] := by
        unfold snm; rw [List.take_add_one, List.getElem?_map, hx]; simp only [Option.map_some, Option.toList_some, nmSt]; rw [hd, Int.toNat_natCast, hy, Option.getD_some]
      have HTK : Sl _ := ⟨htk⟩; have x0 := hra 0 _ rfl; have x1 := hra 1 _ rfl; have x2 := hra 2 _ rfl; have x3 := hra 3 _ rfl; have x4 := hra 4 _ rfl; rw [Nat.add_zero] at x0; rw [hd] at x1; have y0 := hra2 0 _ rfl; rw [Nat.add_zero] at y0; have HY0 : Sl (w.cell? ⟨gb2, oo2 + d * 3, none⟩ = some (.string y.nm) ∧ gb2 < w.heap.size) := ⟨y0, hgb2⟩; have hdn : d < o.n1 := (by omega); have HDN : Sl (d < o.n1) := ⟨hdn⟩; obtain ⟨ynm, hyn⟩ : ∃ ynm, y.nm = ynm := ⟨_, rfl⟩; rw [hyn] at hs2 HTK HY0; obtain ⟨nm, dv, fn, fd, XA, xn, xc, ps⟩ := x; simp only [] at x0 x1 x2 x3 x4 hs1 HTK; have HSZ : Sl (nm.size ≤ 16 ∧ ynm.size ≤ 16) := ⟨hs1, hs2⟩; rw [hA3]; have HA3 : Sl _ := ⟨hA3⟩; have HA1 : Sl _ := ⟨hA1⟩; clear hra hra2 hx hy hnm hynm htk hA3 hA1 y0 hyn hd hd0 hd1 hgb2 hdn hs1 hs2
      go_upto_region 4 with ((with_reducible show wpList _ _ _ _ _ _); first
        | (refine wpList_alloc_new 5 rfl rfl 90 rfl #[.string ⟨#[]⟩, .int .i64 0, .int .i64 0, .int .i64 0, .slice none 0 0] alloc_stop ?_; rintro wa gx zg zm zs zb; replace HO : Sl (OS _ _ _ _ _ _) := ⟨HO.out.below (below_mv (Below.refl _ _) zm (Nat.le_refl _) (Nat.le_refl _))⟩; replace HD : Sl _ := ⟨HD.out.new zg zm zb⟩; clear zg zm zs zb)
        | (refine wpList_store_whole rfl 90 (.tmp 5) (.tmp 14) rfl gx #[.string nm, .int .i64 (d : Int), .int .i64 fn, .int .i64 fd, .slice XA xn xc] rfl rfl 90 _ (HD.out.at_ 0 rfl) rfl (by kernel_rfl) (by simp [Value.oneCell']) ?_; rintro wb zm zs zb; replace HO : Sl (OS _ _ _ _ _ _) := ⟨HO.out.mv zm (fun k hk e => HO.out.ne_blk (HD.out.at_ 0 rfl) (by decide) (by rw [hk, e]))⟩; replace HD : Sl _ := ⟨HD.out.upd zm zb⟩; clear zm zs zb))
      clear x0 x1 x2 x3 x4; have hS0 : wb.grownBy wb.drew (Value.slice A k cA).ownBlock := grown_of_below (below_drewN (Below.refl _ _) 1)
      have HFR : Sl (∀ w' : World, wb.grownBy w' (Value.slice A k cA).ownBlock → (w'.cell? ⟨gx, 0, none⟩ = some (.string nm) ∧ w'.cell? ⟨gx, 1, none⟩ = some (.int .i64 (d : Int))) ∧ w'.cell? ⟨gs, 0, none⟩ = some (.slice (some ⟨gb2, oo2, none⟩) o.n1 o.c1) ∧ w'.cell? ⟨gb2, oo2 + d * 3, none⟩ = some (.string ynm)) := ⟨fun w' h => by
        have b1 := blk_grown (HD.out.at_ 0 rfl) h (fun e => HO.out.ne_blk (HD.out.at_ 0 rfl) (by decide) e); have b2 := blk_grown (HD.out.at_ 1 rfl) h (fun e => HO.out.ne_blk (HD.out.at_ 1 rfl) (by decide) e); refine ⟨⟨b1.cell 0, b1.cell 1⟩, (b2.cell 0).trans (by rw [← HA1.out]; rfl), ?_⟩; have e1 := HD.out.bl.cell (p := ⟨gb2, oo2 + d * 3, none⟩) HY0.out.2; rw [← HY0.out.1, ← e1]
        exact World.cell?_of_block (h.block gb2 (Nat.lt_of_lt_of_le HY0.out.2 HD.out.bl.size) (fun e2 => by have := (HO.out.lt gb2 e2.symm).1; have := HY0.out.2; omega))⟩
      have hs1 := HSZ.out.1; have hs2 := HSZ.out.2; have h64 : (⟨#[64]⟩ : ByteArray).size = 1 := rfl; have hdI1 : (0 : Int) ≤ (d : Int) := (by omega); have hdI2 : (d : Int) < (o.n1 : Int) := (by have := HDN.out; omega); have hdN := HDN.out; have hm := hS0; clear hS0; refine wp_region_held_drew (S := fun w' => wb.grownBy w' (Value.slice A k cA).ownBlock) (by kernel_rfl) hm (fun hHeld => ?_); clear hm; refine hM 0 (v := .slice A k cA) rfl rfl ?_; simp only [pS]; refine hS 1 (v := .pointer (some ⟨gx, 0, none⟩)) rfl rfl ?_; simp only [pS]
      refine hC 2 (v := .string nm) rfl rfl (fun w' h => by
        have hc := (HFR.out w' h).1.1
        go_simp) ?_
      simp only [pS]; refine hP 3 (v := .string (nm ++ ⟨#[64]⟩)) rfl rfl (fun _ => by go_simp; omega) ?_; simp only [pS]; refine hS 4 (v := .pointer (some ⟨gs, 0, none⟩)) rfl rfl ?_; simp only [pS]
      refine hC 5 (v := .slice (some ⟨gb2, oo2, none⟩) o.n1 o.c1) rfl rfl (fun w' h => by
        have hc := (HFR.out w' h).2.1
        go_simp) ?_
      simp only [pS]; refine hS 6 (v := .pointer (some ⟨gx, 1, none⟩)) rfl rfl ?_; simp only [pS]
      refine hC 7 (v := .int .i64 (d : Int)) rfl rfl (fun w' h => by
        have hc := (HFR.out w' h).1.2
        go_simp) ?_
      simp only [pS]; refine hS 8 (v := .pointer (some ⟨gb2, oo2 + d * 3, none⟩)) rfl rfl ?_; simp only [pS]; refine hS 9 (v := .pointer (some ⟨gb2, oo2 + d * 3, none⟩)) rfl rfl ?_; simp only [pS]
      refine hC 10 (v := .string ynm) rfl rfl (fun w' h => by
        have hc := (HFR.out w' h).2.2
        go_simp) ?_
      simp only [pS]; refine hP 11 (v := .string (nm ++ ⟨#[64]⟩ ++ ynm)) rfl rfl (fun _ => by go_simp; omega) ?_; simp only [pS]; refine hO 12 rfl rfl fun K hK => ?_; refine wp_of_runc (.slice (some ⟨wb.heap.size, 0, none⟩) 1 1) (wb.drew.alloc (.cells #[.string (nm ++ ⟨#[64]⟩ ++ ynm)] 9)) (by kernel_rfl) ?_; have HGA : Sl (wb.grownBy (wb.drew.alloc (.cells #[.string (nm ++ ⟨#[64]⟩ ++ ynm)] 9)) (Value.slice A k cA).ownBlock) := ⟨grown_of_below ((show Below wb.heap.size wb wb.drew from below_drewN (Below.refl _ _) 1).alloc (by exact Nat.le_refl _) _)⟩; refine hK.out _ _ HGA.out (fun hHeld => ?_); clear hK K; simp only [pS]; refine hO 13 rfl rfl fun K hK => ?_; have hOA : OS (wb.drew.alloc (.cells #[.string (nm ++ ⟨#[64]⟩ ++ ynm)] 9)) w.heap.size A k cA ((snm o).take k) := (show OS wb.drew _ _ _ _ _ from HO.out).alloc _; refine wp_append_os (.tmp 15) (.tmp 27) rfl w.heap.size A k cA ((snm o).take k) rfl hOA (some ⟨wb.drew.heap.size, 0, none⟩) 1 1 [nm ++ ⟨#[64]⟩ ++ ynm] rfl (SS.made wb.drew _ _) (by omega) (Nat.le_trans HD.out.bl.size (by simp)) ?_; rintro A2 c2 w6 zo zg zt; have HG6 : Sl (wb.grownBy w6 (Value.slice A k cA).ownBlock) := ⟨grown_trans HGA.out zg⟩; have HO6 : Sl _ := ⟨zo⟩; refine hK.out _ _ HG6.out (fun hHeld => ?_); clear hK K zo zg zt hOA; simp only [pS]; refine hM 14 (v := .slice A2 (k + 1) c2) rfl rfl ?_; simp only [pS]; refine wpAnyH_done (by kernel_rfl) ?_ _; clear hHeld hs1 hs2 h64 hdI1 hdI2 hdN
      have hD6 := ((HD.out.grown HG6.out (fun q hq => (HO.out.lt q hq).1) (fun q hq e => by
        simp only [List.mem_cons, List.not_mem_nil, or_false] at hq; rcases hq with rfl | rfl
        · exact HO.out.ne_blk (HD.out.at_ 0 rfl) (by decide) e
        · exact HO.out.ne_blk (HD.out.at_ 1 rfl) (by decide) e))).drop
      have HD6 : Sl _ := ⟨hD6⟩; clear hD6 HGA HFR; go_wp2_with fail; exact ⟨⟨k + 1, A2, c2, by omega, rfl, by go_num, ⟨by rw [← HA3.out]; exact HD6.out, by rw [HTK.out]; exact HO6.out⟩⟩, by simp [RowKit.intOf]; omega⟩
    · obtain rfl : k = o.n3 := (by omega); have hsl : (snm o).take o.n3 = snm o := List.take_of_length_le (by unfold snm; rw [List.length_map, HM.out.s.len]; exact Nat.le_refl _); rw [hsl] at HO; clear hsl; have c3 := (HD.out.at_ 0 rfl).cell 3; simp at c3; go_wp2_with fail; clear c3; have HLE : Sl (w.heap.size ≤ wr.heap.size) := ⟨HD.out.bl.size⟩
      rename World => wv
      have H3 : Sl (OS wv w.heap.size A o.n3 cA (snm o)) := ⟨HO.out⟩; clear HO
      go_loopw [3, 33] (fun s3 s33 wx => ∃ (j : Nat) (B : Option Addr) (cB : Nat), j ≤ o.n4 ∧ s3 = .slice B j cB ∧ s33 = .int .i64 j ∧ Sl (Lg w wx [(gs, 33, #[.slice o.A1 o.n1 o.c1, .slice o.A2 o.n2 o.c2, .slice o.A3 o.n3 o.c3, .slice o.A4 o.n4 o.c4])] ∧ OS wx wv.heap.size B j cB ((cnm o).take j) ∧ Below wv.heap.size wv wx)) (fun _ s33 _ => o.n4 - (RowKit.intOf s33).toNat)
      case atStart => exact ⟨0, none, 0, Nat.zero_le _, rfl, rfl, ⟨HD.out, OS.nil _ _, Below.refl _ _⟩⟩
      case round =>
        clear HD; obtain ⟨j, B, cB, hj, rfl, rfl, HK⟩ := hrel; have HD : Sl _ := ⟨HK.out.1⟩; have HO : Sl _ := ⟨HK.out.2.1⟩; have HW : Sl _ := ⟨HK.out.2.2⟩; clear HK
        by_cases hjn : j < o.n4
        · have hjI : decide ((j : Int) < (o.n4 : Int)) = true := decide_eq_true (by omega); have hjI2 : (j : Int) < (o.n4 : Int) := (by omega); obtain ⟨gb, oo, x, hA4, hgb, hx, hra⟩ := (HM.out.c.below HD.out.bl).at_ (by omega) hjn; have hnm := HNM.out.2.2 x (List.mem_of_getElem? hx); have hs1 := (nmB_size hnm).2
          have htk : (cnm o).take (j + 1) = (cnm o).take j ++ [⟨#[43]⟩ ++ x.nm] := by
            unfold cnm; rw [List.take_add_one, List.getElem?_map, hx]; rfl
          have HTK : Sl _ := ⟨htk⟩; have x0 := hra 0 _ rfl; have x1 := hra 1 _ rfl; have x2 := hra 2 _ rfl; have x3 := hra 3 _ rfl; have x4 := hra 4 _ rfl; have x5 := hra 5 _ rfl; rw [Nat.add_zero] at x0; obtain ⟨nm, fr, tt, sh, on, th⟩ := x; simp only [] at x0 x1 x2 x3 x4 x5 hs1 HTK; rw [hA4]; have HA4 : Sl _ := ⟨hA4⟩; clear hra hx hnm htk hA4; have h43 : (⟨#[43]⟩ : ByteArray).size = 1 := rfl
          go_wp2_with ((with_reducible show wpList _ _ _ _ _ _); first
            | (refine wpList_alloc_new 7 rfl rfl 93 rfl #[.string ⟨#[]⟩, .int .i64 0, .int .i64 0, .int .i64 0, .int .i64 0, .bool false] alloc_coup ?_; rintro wa gx zg zm zs zb; have HGX : Sl (wv.heap.size ≤ gx) := ⟨by rw [zg]; exact HW.out.size⟩; replace HO : Sl (OS _ _ _ _ _ _) := ⟨HO.out.below (below_mv (Below.refl _ _) zm (Nat.le_refl _) (Nat.le_refl _))⟩; replace HW : Sl _ := ⟨below_mv HW.out zm HW.out.size HW.out.size⟩; replace HD : Sl _ := ⟨HD.out.new zg zm zb⟩; clear zg zm zs zb)
            | (refine wpList_store_whole rfl 93 (.tmp 7) (.tmp 36) rfl gx #[.string nm, .int .i64 fr, .int .i64 tt, .int .i64 sh, .int .i64 on, .bool th] rfl rfl 93 _ (HD.out.at_ 0 rfl) rfl (by kernel_rfl) (by simp [Value.oneCell']) ?_; rintro wb zm zs zb; replace HO : Sl (OS _ _ _ _ _ _) := ⟨HO.out.mv zm (fun k hk e => HO.out.ne_blk (HD.out.at_ 0 rfl) (by decide) (by rw [hk, e]))⟩; replace HW : Sl _ := ⟨below_mv HW.out zm HGX.out HW.out.size⟩; replace HD : Sl _ := ⟨HD.out.upd zm zb⟩; have cc0 := zb.cell 0; simp at cc0; clear zm zs zb)
            | (at_builtin; go_loud (refine wpList_append_os rfl (.tmp 37) (.tmp 41) rfl wv.heap.size B j cB ((cnm o).take j) rfl (HO.out.alloc _) (some ⟨wb.heap.size, 0, none⟩) 1 1 [⟨#[43]⟩ ++ nm] rfl (SS.made _ _ _) (by omega) (Nat.le_trans HW.out.size (by simp)) ?_); rintro B2 c2 w2 zo zg zt; have HZ : Sl _ := ⟨And.intro zo zg⟩; clear zo zg zt))
          have hD2 := ((HD.out.below ((Below.refl _ _).alloc (Nat.le_refl _) (.cells #[.string (⟨#[43]⟩ ++ nm)] 9))).grown HZ.out.2 (fun q hq => Nat.le_trans HLE.out (HO.out.lt q hq).1) (fun q hq e => by
            simp only [List.mem_cons, List.not_mem_nil, or_false] at hq; rcases hq with rfl | rfl
            · exact HO.out.ne_blk (HD.out.at_ 0 rfl) (by decide) e
            · exact HO.out.ne_blk (HD.out.at_ 1 rfl) (by decide) e)).drop
          have HB2 : Sl (Below wv.heap.size wv w2) := ⟨below_grown (HW.out.alloc HW.out.size _) HZ.out.2 (Nat.le_trans HW.out.size (by simp)) (fun q hq => (HO.out.lt q hq).1)⟩; exact ⟨⟨j + 1, B2, c2, by omega, rfl, by go_num, ⟨by rw [← HA4.out]; exact hD2, by rw [HTK.out]; exact HZ.out.1, HB2.out⟩⟩, by simp [RowKit.intOf]; omega⟩
        · obtain rfl : j = o.n4 := (by omega); have hsl : (cnm o).take o.n4 = cnm o := List.take_of_length_le (by unfold cnm; rw [List.length_map, HM.out.c.len]; exact Nat.le_refl _); rw [hsl] at HO; clear hsl; go_wp2_with fail; go_ret2; exact ⟨⟨A, cA, B, cB, rfl, H3.out.below HW.out, HO.out.mono HLE.out⟩, HD.out.bl⟩
theorem wpList_clear_run {P : Program} (w : World) {ops : Array Oper} {rest : List Oper} {o : Oper} {a : Act} {Q : Exit → Act → World → Prop} (hgd : o.guard = none) (s : Operand) (t : TypeId)
    (ho : o.op = .call { callee := .builtin .clear, args := #[s], argTypes := #[t] }) (v : Value) (hs : a.eval s = v) {v' : Value} {w' : World}
    (hr : (Builtin.clear_ #[t] o.type #[v]).run P w = .ok v' w') (h : wpList P ops Q rest (a.put o.dst v') w') : wpList P ops Q (o :: rest) a w := by
  refine wpList_plain hgd fun _ hK => ?_
  unfold Oper.wp execOp; simp only [ho, resolve, invoke, builtin, Sem.run_bind, Sem.run_pure, Result.andThen_ok, List.map_toArray, List.map_cons, List.map_nil, hs, hr]; exact hK _ _ h
theorem run_clear_one {P : Program} (w : World) (t e ty : TypeId) (z : Value) (ht : P.underlying t = some (.slice e)) (hv : ∀ w, (zeroValue e).run P w = .ok z w) (zs : List Value) (hz : (Builtin.zeroCells z.cells 1).toList = zs) (h1 : ∀ v ∈ zs, v.oneCell' = true) (b o c : Nat)
    (hc : ∀ j, j < zs.length → (w.cell? ⟨b, o + j, none⟩).isSome = true) (hf : ∀ j, j < zs.length → w.frozen? ⟨b, o + j, none⟩ = false) :
    (Builtin.clear_ #[t] ty #[.slice (some ⟨b, o, none⟩) 1 c]).run P w = .ok (.tuple #[]) (w.setCells b o zs) := by
  have hst := run_storeCells_cells (P := P) b o zs 0 w (by simpa using hc) (by simpa using hf) h1; simp only [Nat.add_zero] at hst; simp [Builtin.clear_, run_underlying ht, hv, hz, hst]
theorem own_take {w : World} {base size n c g i : Nat} {e : TypeId} {xs : List Value} (h : w.ownsRow base e size (.slice (some ⟨g, 0, none⟩) n c) n xs) (hi : i ≤ n) : w.ownsRow base e size (.slice (some ⟨g, 0, none⟩) i c) i (xs.take (i * size)) := by
  have hle : i * size ≤ n * size := Nat.mul_le_mul_right _ hi; refine ⟨by rw [List.length_take, h.1]; omega, ?_⟩; rcases h.2 with ⟨h0, _⟩ | ⟨g', cap, cur, e1, h1, h2, h3, h4, h5, h6⟩
  · cases h0
  · injection e1 with a b c'
    injection a with a
    injection a with a
    subst a c'; refine .inr ⟨g, c, cur, rfl, h1, h2, by omega, h4, h5, ?_⟩; rw [← h6, List.take_take, Nat.min_eq_left hle]
theorem own_room {w : World} {base size n c g : Nat} {e : TypeId} {xs : List Value} (h : w.ownsRow base e size (.slice (some ⟨g, 0, none⟩) n c) n xs) {j : Nat} (hj : j < c * size) : (w.cell? ⟨g, j, none⟩).isSome = true ∧ w.frozen? ⟨g, j, none⟩ = false := by
  refine ⟨?_, h.frozenAt j⟩; rcases h.2 with ⟨h0, _⟩ | ⟨g', cap, cur, e1, h1, h2, h3, h4, h5, h6⟩
  · cases h0
  · injection e1 with a b c'
    injection a with a
    injection a with a
    subst a c'; have hB : Blk w g e cur := h2; rw [hB.cell, Array.getElem?_eq_getElem (by omega)]; rfl
theorem own_spare {w : World} {base size n c g : Nat} {e : TypeId} {xs : List Value} (h : w.ownsRow base e size (.slice (some ⟨g, 0, none⟩) n c) n xs) (o : Nat) (vs : List Value) (ho : n * size ≤ o) (ho2 : o + vs.length ≤ c * size) : (w.setCells g o vs).ownsRow base e size (.slice (some ⟨g, 0, none⟩) n c) n xs := by
  refine ⟨h.1, ?_⟩; rcases h.2 with ⟨h0, _⟩ | ⟨g', cap, cur, e1, h1, h2, h3, h4, h5, h6⟩
  · cases h0
  · injection e1 with a b c'
    injection a with a
    injection a with a
    subst a c'; have hB : Blk w g e cur := h2; have hB2 := Blk.setCells (w := w) vs o w cur hB; refine .inr ⟨g, c, _, rfl, h1, hB2, h3, h4, by rw [putA_size]; exact h5, ?_⟩; rw [← h6]; apply List.ext_getElem?; intro k
    by_cases hk : k < n * size
    · rw [List.getElem?_take_of_lt hk, List.getElem?_take_of_lt hk, Array.getElem?_toList, Array.getElem?_toList, putA_get vs cur o k (by omega), if_neg (by omega)]
    · rw [List.getElem?_eq_none (by rw [List.length_take]; omega), List.getElem?_eq_none (by rw [List.length_take]; omega)]
theorem grown_setCells (w : World) (g o : Nat) (vs : List Value) : w.grownBy (w.setCells g o vs) (some g) := grown_of_mv (Mv.setCells w g o vs)
theorem grownD {a b : World} {row : Option Nat} (h : a.drew.grownBy b row) : a.grownBy b row := ⟨h.os, h.tape, h.output, h.size, h.block⟩
theorem grownT {a b c : World} {row : Option Nat} (h : a.grownBy b row) (k : b.grownBy c row) : a.grownBy c row :=
  ⟨k.os.trans h.os, k.tape.trans h.tape, k.output.trans h.output, Nat.le_trans h.size k.size, fun i hi hn => (k.block i (Nat.lt_of_lt_of_le hi h.size) hn).trans (h.block i hi hn)⟩
theorem info_reg : ∃ i, Tryz.prog.info? 45 = some i ∧ i.size = 2 ∧ i.zero = some (.agg #[.slice none 0 0, .slice none 0 0]) ∧ i.bytes = 48 := by
  have h : (Tryz.prog.info? 45).map (fun i => (i.size, i.zero, i.bytes)) = some (2, some (.agg #[.slice none 0 0, .slice none 0 0]), 48) := (by kernel_rfl); obtain ⟨i, hi, he⟩ := Option.map_eq_some_iff.1 h; injection he with e1 e2
  injection e2 with e2 e3
  exact ⟨i, hi, e1, e2, e3⟩
theorem zero_reg (w : World) : (zeroValue 45).run Tryz.prog w = .ok (.agg #[.slice none 0 0, .slice none 0 0]) w := by kernel_rfl
theorem del_reg {base g n c i : Nat} {xs : List Value} {w : World} (h : w.ownsRow base 45 2 (.slice (some ⟨g, 0, none⟩) (n + 1) c) (n + 1) xs) (hi : i < n + 1) (hn : n ≤ 1000000) (h1 : ∀ u ∈ xs, u.oneCell' = true) :
    Calls Tryz.prog 109 #[.slice (some ⟨g, 0, none⟩) (n + 1) c, .int .i64 (i : Int), .int .i64 ((i : Int) + 1)] w fun en w' => en = .returned (.slice (some ⟨g, 0, none⟩) n c) ∧
      w'.ownsRow base 45 2 (.slice (some ⟨g, 0, none⟩) n c) n (xs.take (i * 2) ++ xs.drop ((i + 1) * 2)) ∧ w.grownBy w' (some g) := by
  have HO : Sl _ := ⟨h⟩; have hlen := h.1
  have hcap : n + 1 ≤ c ∧ c ≤ 9223372036854775807 := by
    rcases h.2 with ⟨h0, _⟩ | ⟨g', cap, cur, e1, _, _, h3, h4, _⟩
    · cases h0
    · injection e1 with _ _ c'
      subst c'; unfold maxLen at h4; exact ⟨h3, h4⟩
  have hc1 := hcap.1; have hc2 := hcap.2; have HN : Sl (n ≤ 1000000 ∧ i < n + 1 ∧ n + 1 ≤ c) := ⟨hn, hi, hc1⟩; have HL : Sl _ := ⟨hlen⟩; have H1 : Sl _ := ⟨h1⟩; have q0 : (0 : Int) ≤ (i : Int) := (by omega); have q1 : (i : Int) + 1 ≤ (n : Int) + 1 := (by omega); have q2 : (n : Int) + 1 ≤ (c : Int) := (by omega); have q3 : (i : Int) ≤ (i : Int) + 1 := (by omega); have q4 : ((i : Int) == (i : Int) + 1) = false := (by rw [beq_eq_false_iff_ne]; omega); have q5 : (i : Int) ≤ (c : Int) := (by omega); have q6 : ((i : Int) + 1).toNat = i + 1 := (by omega); have q7 : (i : Int) + 1 ≤ (c : Int) := (by omega); clear h hlen hcap h1; go_enter Tryz.func109, Tryz.ntmps109; go_wp2_with fail; have hS0 : Below base w w.drew := below_drewN (Below.refl _ _) 1; have HTK := own_take (w := w.drew) HO.out (Nat.le_of_lt HN.out.2.1); obtain ⟨ii, k1, k2, k3, k4⟩ := info_reg
  have HRM : Sl (∀ j u, (xs.drop ((i + 1) * 2))[j]? = some u → w.drew.cell? ((⟨g, (i + 1) * 2, none⟩ : Addr).add j) = some u) := ⟨fun j u hj => by
    rw [List.getElem?_drop] at hj; have hl : (i + 1) * 2 + j < (n + 1) * 2 := (by rw [← HL.out]; exact (List.getElem?_eq_some_iff.1 hj).1); rw [show (⟨g, (i + 1) * 2, none⟩ : Addr).add j = ⟨g, (i + 1) * 2 + j, none⟩ by unfold Addr.add; split <;> simp_all]; have := HO.out.cellAt ((i + 1) * 2 + j) hl; rw [hj] at this
    exact this⟩
  have HFIT : Sl (∀ a ty, (∀ j u, (xs.drop ((i + 1) * 2))[j]? = some u → w.drew.cell? (Addr.add a j) = some u) → ∃ w', (Builtin.append_ #[36, 36] ty #[.slice (some ⟨g, 0, none⟩) i c, .slice (some a) (n + 1 - (i + 1)) (c - (i + 1))]).run Tryz.prog w.drew = .ok (.slice (some ⟨g, 0, none⟩) n c) w' ∧
      w'.ownsRow base 45 2 (.slice (some ⟨g, 0, none⟩) n c) n (xs.take (i * 2) ++ xs.drop ((i + 1) * 2)) ∧ w.drew.grownBy w' (some g)) := ⟨fun a ty ha => by
    have hnn := HN.out; have := run_append_fits w.drew base 36 ty 45 ii 2 Tryz.underlying36 k1 k2 g i c _ HTK a (n + 1 - (i + 1)) (c - (i + 1)) (xs.drop ((i + 1) * 2)) (by rw [List.length_drop, HL.out, Nat.sub_mul]) ha (fun u hu => H1.out u (List.mem_of_mem_drop hu)) (by omega)
    rwa [show i + (n + 1 - (i + 1)) = n by omega] at this⟩
  clear k1 k2 k3 k4 HTK
  by_cases hcj : c = i + 1
  · have hni : n = i := (by have := HN.out; omega)
    obtain ⟨w5, e1, e2, e3⟩ := HFIT.out ⟨g, 0, none⟩ 36 (fun j u hj => by
      rw [List.drop_eq_nil_of_le (by rw [HL.out, hni]; exact Nat.le_refl _)] at hj; cases hj)
    have hcj2 : (c = i + 1) = True := eq_true hcj; have hni2 : n + 1 - (i + 1) = 0 := (by omega); have hni3 : c - (i + 1) = 0 := (by omega); rw [hni2, hni3] at e1; have HE1 : Sl _ := ⟨e1⟩; have HE2 : Sl _ := ⟨e2⟩; have HE3 : Sl _ := ⟨e3⟩; have hS5 : Below 0 w.drew w5 := Below.mono (below_grown (Below.refl 0 _) e3 (Nat.zero_le _) (fun _ _ => Nat.zero_le _)) (Nat.le_refl _); clear e1 e2 e3 hcj hni; have hS1 : Below 0 w w.drew := Below.drew (Below.refl _ _); have HS5 : Sl (Below 0 w w5) := ⟨hS1.trans hS5⟩; clear hS5; have hm := hS1; refine wp_region_held_drew (S := fun w' => Below 0 w w') (by kernel_rfl) hm (fun hHeld => ?_); clear hm; refine hM 0 (v := .slice (some ⟨g, 0, none⟩) (n + 1) c) rfl rfl ?_; simp only [pS]; refine hM 1 (v := .int .i64 (i : Int)) rfl rfl ?_; simp only [pS]; refine hS 2 (v := .slice (some ⟨g, 0, none⟩) i c) rfl rfl ?_; simp only [pS]; refine hM 3 (v := .slice (some ⟨g, 0, none⟩) (n + 1) c) rfl rfl ?_; simp only [pS]; refine hM 4 (v := .int .i64 ((i : Int) + 1)) rfl rfl ?_; simp only [pS]; refine hP 5 (v := .slice (some ⟨g, 0, none⟩) 0 0) rfl rfl (fun _ => by go_simp; (try (intro hh; omega))) ?_; simp only [pS]; refine hO 6 rfl rfl fun K hK => ?_; refine Lib.wp_append_run _ (.tmp 22) (.tmp 25) 36 36 rfl _ _ rfl rfl _ _ HE1.out ?_; refine hK.out _ _ HS5.out (fun hHeld => ?_); clear hK K
    (try simp only [pS])
    refine hM 7 (v := .slice (some ⟨g, 0, none⟩) n c) rfl rfl ?_; simp only [pS]; refine wpAnyH_done (by kernel_rfl) ?_ _; clear hHeld; have hcn : ¬ c = n := (by have := HN.out; omega); have q8 : (0 : Int) ≤ (n : Int) := (by omega)
    have HCL : Sl (∀ ty cc, (Builtin.clear_ #[36] ty #[.slice (some ⟨g, n * 2, none⟩) 1 cc]).run Tryz.prog w5 = .ok (.tuple #[]) (w5.setCells g (n * 2) [.slice none 0 0, .slice none 0 0])) := ⟨fun ty cc => run_clear_one w5 36 45 ty (.agg #[.slice none 0 0, .slice none 0 0]) Tryz.underlying36 zero_reg [.slice none 0 0, .slice none 0 0] (by kernel_rfl) (by decide) g (n * 2) cc
      (fun j hj => (own_room HE2.out (by have := HN.out; have hj : j < 2 := hj; omega)).1) (fun j hj => (own_room HE2.out (by have := HN.out; have hj : j < 2 := hj; omega)).2)⟩
    have HEND : Sl ((w5.setCells g (n * 2) [.slice none 0 0, .slice none 0 0]).ownsRow base 45 2 (.slice (some ⟨g, 0, none⟩) n c) n (xs.take (i * 2) ++ xs.drop ((i + 1) * 2)) ∧ w.grownBy (w5.setCells g (n * 2) [.slice none 0 0, .slice none 0 0]) (some g)) := ⟨own_spare HE2.out _ _ (Nat.le_refl _) (by have := HN.out; show n * 2 + 2 ≤ c * 2; omega), grownT (grownD HE3.out) (grown_setCells _ _ _ _)⟩; go_wp2_with (refine wpList_clear_run _ rfl (.tmp 31) 36 rfl _ rfl (HCL.out _ _) ?_); go_ret; exact ⟨rfl, HEND.out⟩
  · obtain ⟨w5, e1, e2, e3⟩ := HFIT.out ⟨g, (i + 1) * 2, none⟩ 36 HRM.out; have HE1 : Sl _ := ⟨e1⟩; have HE2 : Sl _ := ⟨e2⟩; have HE3 : Sl _ := ⟨e3⟩; have hS5 : Below 0 w.drew w5 := Below.mono (below_grown (Below.refl 0 _) e3 (Nat.zero_le _) (fun _ _ => Nat.zero_le _)) (Nat.le_refl _); clear e1 e2 e3; have hS1 : Below 0 w w.drew := Below.drew (Below.refl _ _); have HS5 : Sl (Below 0 w w5) := ⟨hS1.trans hS5⟩; clear hS5; have hm := hS1; refine wp_region_held_drew (S := fun w' => Below 0 w w') (by kernel_rfl) hm (fun hHeld => ?_); clear hm; refine hM 0 (v := .slice (some ⟨g, 0, none⟩) (n + 1) c) rfl rfl ?_; simp only [pS]; refine hM 1 (v := .int .i64 (i : Int)) rfl rfl ?_; simp only [pS]; refine hS 2 (v := .slice (some ⟨g, 0, none⟩) i c) rfl rfl ?_; simp only [pS]; refine hM 3 (v := .slice (some ⟨g, 0, none⟩) (n + 1) c) rfl rfl ?_; simp only [pS]; refine hM 4 (v := .int .i64 ((i : Int) + 1)) rfl rfl ?_; simp only [pS]; refine hP 5 (v := .slice (some ⟨g, (i + 1) * 2, none⟩) (n + 1 - (i + 1)) (c - (i + 1))) rfl rfl (fun _ => by go_simp; (try (intro hh; omega))) ?_; simp only [pS]; refine hO 6 rfl rfl fun K hK => ?_; refine Lib.wp_append_run _ (.tmp 22) (.tmp 25) 36 36 rfl _ _ rfl rfl _ _ HE1.out ?_; refine hK.out _ _ HS5.out (fun hHeld => ?_); clear hK K
    (try simp only [pS])
    refine hM 7 (v := .slice (some ⟨g, 0, none⟩) n c) rfl rfl ?_; simp only [pS]; refine wpAnyH_done (by kernel_rfl) ?_ _; clear hHeld; have hcn : ¬ c = n := (by have := HN.out; omega); have q8 : (0 : Int) ≤ (n : Int) := (by omega)
    have HCL : Sl (∀ ty cc, (Builtin.clear_ #[36] ty #[.slice (some ⟨g, n * 2, none⟩) 1 cc]).run Tryz.prog w5 = .ok (.tuple #[]) (w5.setCells g (n * 2) [.slice none 0 0, .slice none 0 0])) := ⟨fun ty cc => run_clear_one w5 36 45 ty (.agg #[.slice none 0 0, .slice none 0 0]) Tryz.underlying36 zero_reg [.slice none 0 0, .slice none 0 0] (by kernel_rfl) (by decide) g (n * 2) cc
      (fun j hj => (own_room HE2.out (by have := HN.out; have hj : j < 2 := hj; omega)).1) (fun j hj => (own_room HE2.out (by have := HN.out; have hj : j < 2 := hj; omega)).2)⟩
    have HEND : Sl ((w5.setCells g (n * 2) [.slice none 0 0, .slice none 0 0]).ownsRow base 45 2 (.slice (some ⟨g, 0, none⟩) n c) n (xs.take (i * 2) ++ xs.drop ((i + 1) * 2)) ∧ w.grownBy (w5.setCells g (n * 2) [.slice none 0 0, .slice none 0 0]) (some g)) := ⟨own_spare HE2.out _ _ (Nat.le_refl _) (by have := HN.out; show n * 2 + 2 ≤ c * 2; omega), grownT (grownD HE3.out) (grown_setCells _ _ _ _)⟩; go_wp2_with (refine wpList_clear_run _ rfl (.tmp 31) 36 rfl _ rfl (HCL.out _ _) ?_); go_ret; exact ⟨rfl, HEND.out⟩
theorem info_edt : ∃ i, Tryz.prog.info? 112 = some i ∧ i.size = 4 ∧ i.zero = some (.agg #[.nilFunc, .nilFunc, .int .i64 0, .int .i64 0]) ∧ i.bytes = 32 := by
  have h : (Tryz.prog.info? 112).map (fun i => (i.size, i.zero, i.bytes)) = some (4, some (.agg #[.nilFunc, .nilFunc, .int .i64 0, .int .i64 0]), 32) := (by kernel_rfl); obtain ⟨i, hi, he⟩ := Option.map_eq_some_iff.1 h; injection he with e1 e2
  injection e2 with e2 e3
  exact ⟨i, hi, e1, e2, e3⟩
theorem zero_edt (w : World) : (zeroValue 112).run Tryz.prog w = .ok (.agg #[.nilFunc, .nilFunc, .int .i64 0, .int .i64 0]) w := by kernel_rfl
theorem del_edt {base g n c i : Nat} {xs : List Value} {w : World} (h : w.ownsRow base 112 4 (.slice (some ⟨g, 0, none⟩) (n + 1) c) (n + 1) xs) (hi : i < n + 1) (hn : n ≤ 1000000) (h1 : ∀ u ∈ xs, u.oneCell' = true) :
    Calls Tryz.prog 107 #[.slice (some ⟨g, 0, none⟩) (n + 1) c, .int .i64 (i : Int), .int .i64 ((i : Int) + 1)] w fun en w' => en = .returned (.slice (some ⟨g, 0, none⟩) n c) ∧
      w'.ownsRow base 112 4 (.slice (some ⟨g, 0, none⟩) n c) n (xs.take (i * 4) ++ xs.drop ((i + 1) * 4)) ∧ w.grownBy w' (some g) := by
  have HO : Sl _ := ⟨h⟩; have hlen := h.1
  have hcap : n + 1 ≤ c ∧ c ≤ 9223372036854775807 := by
    rcases h.2 with ⟨h0, _⟩ | ⟨g', cap, cur, e1, _, _, h3, h4, _⟩
    · cases h0
    · injection e1 with _ _ c'
      subst c'; unfold maxLen at h4; exact ⟨h3, h4⟩
  have hc1 := hcap.1; have hc2 := hcap.2; have HN : Sl (n ≤ 1000000 ∧ i < n + 1 ∧ n + 1 ≤ c) := ⟨hn, hi, hc1⟩; have HL : Sl _ := ⟨hlen⟩; have H1 : Sl _ := ⟨h1⟩; have q0 : (0 : Int) ≤ (i : Int) := (by omega); have q1 : (i : Int) + 1 ≤ (n : Int) + 1 := (by omega); have q2 : (n : Int) + 1 ≤ (c : Int) := (by omega); have q3 : (i : Int) ≤ (i : Int) + 1 := (by omega); have q4 : ((i : Int) == (i : Int) + 1) = false := (by rw [beq_eq_false_iff_ne]; omega); have q5 : (i : Int) ≤ (c : Int) := (by omega); have q6 : ((i : Int) + 1).toNat = i + 1 := (by omega); have q7 : (i : Int) + 1 ≤ (c : Int) := (by omega); clear h hlen hcap h1; go_enter Tryz.func107, Tryz.ntmps107; go_wp2_with fail; have hS0 : Below base w w.drew := below_drewN (Below.refl _ _) 1; have HTK := own_take (w := w.drew) HO.out (Nat.le_of_lt HN.out.2.1); obtain ⟨ii, k1, k2, k3, k4⟩ := info_edt
  have HRM : Sl (∀ j u, (xs.drop ((i + 1) * 4))[j]? = some u → w.drew.cell? ((⟨g, (i + 1) * 4, none⟩ : Addr).add j) = some u) := ⟨fun j u hj => by
    rw [List.getElem?_drop] at hj; have hl : (i + 1) * 4 + j < (n + 1) * 4 := (by rw [← HL.out]; exact (List.getElem?_eq_some_iff.1 hj).1); rw [show (⟨g, (i + 1) * 4, none⟩ : Addr).add j = ⟨g, (i + 1) * 4 + j, none⟩ by unfold Addr.add; split <;> simp_all]; have := HO.out.cellAt ((i + 1) * 4 + j) hl; rw [hj] at this
    exact this⟩
  have HFIT : Sl (∀ a ty, (∀ j u, (xs.drop ((i + 1) * 4))[j]? = some u → w.drew.cell? (Addr.add a j) = some u) → ∃ w', (Builtin.append_ #[94, 94] ty #[.slice (some ⟨g, 0, none⟩) i c, .slice (some a) (n + 1 - (i + 1)) (c - (i + 1))]).run Tryz.prog w.drew = .ok (.slice (some ⟨g, 0, none⟩) n c) w' ∧
      w'.ownsRow base 112 4 (.slice (some ⟨g, 0, none⟩) n c) n (xs.take (i * 4) ++ xs.drop ((i + 1) * 4)) ∧ w.drew.grownBy w' (some g)) := ⟨fun a ty ha => by
    have hnn := HN.out; have := run_append_fits w.drew base 94 ty 112 ii 4 Tryz.underlying94 k1 k2 g i c _ HTK a (n + 1 - (i + 1)) (c - (i + 1)) (xs.drop ((i + 1) * 4)) (by rw [List.length_drop, HL.out, Nat.sub_mul]) ha (fun u hu => H1.out u (List.mem_of_mem_drop hu)) (by omega)
    rwa [show i + (n + 1 - (i + 1)) = n by omega] at this⟩
  clear k1 k2 k3 k4 HTK
  by_cases hcj : c = i + 1
  · have hni : n = i := (by have := HN.out; omega)
    obtain ⟨w5, e1, e2, e3⟩ := HFIT.out ⟨g, 0, none⟩ 94 (fun j u hj => by
      rw [List.drop_eq_nil_of_le (by rw [HL.out, hni]; exact Nat.le_refl _)] at hj; cases hj)
    have hcj2 : (c = i + 1) = True := eq_true hcj; have hni2 : n + 1 - (i + 1) = 0 := (by omega); have hni3 : c - (i + 1) = 0 := (by omega); rw [hni2, hni3] at e1; have HE1 : Sl _ := ⟨e1⟩; have HE2 : Sl _ := ⟨e2⟩; have HE3 : Sl _ := ⟨e3⟩; have hS5 : Below 0 w.drew w5 := Below.mono (below_grown (Below.refl 0 _) e3 (Nat.zero_le _) (fun _ _ => Nat.zero_le _)) (Nat.le_refl _); clear e1 e2 e3 hcj hni; have hS1 : Below 0 w w.drew := Below.drew (Below.refl _ _); have HS5 : Sl (Below 0 w w5) := ⟨hS1.trans hS5⟩; clear hS5; have hm := hS1; refine wp_region_held_drew (S := fun w' => Below 0 w w') (by kernel_rfl) hm (fun hHeld => ?_); clear hm; refine hM 0 (v := .slice (some ⟨g, 0, none⟩) (n + 1) c) rfl rfl ?_; simp only [pS]; refine hM 1 (v := .int .i64 (i : Int)) rfl rfl ?_; simp only [pS]; refine hS 2 (v := .slice (some ⟨g, 0, none⟩) i c) rfl rfl ?_; simp only [pS]; refine hM 3 (v := .slice (some ⟨g, 0, none⟩) (n + 1) c) rfl rfl ?_; simp only [pS]; refine hM 4 (v := .int .i64 ((i : Int) + 1)) rfl rfl ?_; simp only [pS]; refine hP 5 (v := .slice (some ⟨g, 0, none⟩) 0 0) rfl rfl (fun _ => by go_simp; (try (intro hh; omega))) ?_; simp only [pS]; refine hO 6 rfl rfl fun K hK => ?_; refine Lib.wp_append_run _ (.tmp 22) (.tmp 25) 94 94 rfl _ _ rfl rfl _ _ HE1.out ?_; refine hK.out _ _ HS5.out (fun hHeld => ?_); clear hK K
    (try simp only [pS])
    refine hM 7 (v := .slice (some ⟨g, 0, none⟩) n c) rfl rfl ?_; simp only [pS]; refine wpAnyH_done (by kernel_rfl) ?_ _; clear hHeld; have hcn : ¬ c = n := (by have := HN.out; omega); have q8 : (0 : Int) ≤ (n : Int) := (by omega)
    have HCL : Sl (∀ ty cc, (Builtin.clear_ #[94] ty #[.slice (some ⟨g, n * 4, none⟩) 1 cc]).run Tryz.prog w5 = .ok (.tuple #[]) (w5.setCells g (n * 4) [.nilFunc, .nilFunc, .int .i64 0, .int .i64 0])) := ⟨fun ty cc => run_clear_one w5 94 112 ty (.agg #[.nilFunc, .nilFunc, .int .i64 0, .int .i64 0]) Tryz.underlying94 zero_edt [.nilFunc, .nilFunc, .int .i64 0, .int .i64 0] (by kernel_rfl) (by decide) g (n * 4) cc
      (fun j hj => (own_room HE2.out (by have := HN.out; have hj : j < 4 := hj; omega)).1) (fun j hj => (own_room HE2.out (by have := HN.out; have hj : j < 4 := hj; omega)).2)⟩
    have HEND : Sl ((w5.setCells g (n * 4) [.nilFunc, .nilFunc, .int .i64 0, .int .i64 0]).ownsRow base 112 4 (.slice (some ⟨g, 0, none⟩) n c) n (xs.take (i * 4) ++ xs.drop ((i + 1) * 4)) ∧ w.grownBy (w5.setCells g (n * 4) [.nilFunc, .nilFunc, .int .i64 0, .int .i64 0]) (some g)) := ⟨own_spare HE2.out _ _ (Nat.le_refl _) (by have := HN.out; show n * 4 + 4 ≤ c * 4; omega), grownT (grownD HE3.out) (grown_setCells _ _ _ _)⟩; go_wp2_with (refine wpList_clear_run _ rfl (.tmp 31) 94 rfl _ rfl (HCL.out _ _) ?_); go_ret; exact ⟨rfl, HEND.out⟩
  · obtain ⟨w5, e1, e2, e3⟩ := HFIT.out ⟨g, (i + 1) * 4, none⟩ 94 HRM.out; have HE1 : Sl _ := ⟨e1⟩; have HE2 : Sl _ := ⟨e2⟩; have HE3 : Sl _ := ⟨e3⟩; have hS5 : Below 0 w.drew w5 := Below.mono (below_grown (Below.refl 0 _) e3 (Nat.zero_le _) (fun _ _ => Nat.zero_le _)) (Nat.le_refl _); clear e1 e2 e3; have hS1 : Below 0 w w.drew := Below.drew (Below.refl _ _); have HS5 : Sl (Below 0 w w5) := ⟨hS1.trans hS5⟩; clear hS5; have hm := hS1; refine wp_region_held_drew (S := fun w' => Below 0 w w') (by kernel_rfl) hm (fun hHeld => ?_); clear hm; refine hM 0 (v := .slice (some ⟨g, 0, none⟩) (n + 1) c) rfl rfl ?_; simp only [pS]; refine hM 1 (v := .int .i64 (i : Int)) rfl rfl ?_; simp only [pS]; refine hS 2 (v := .slice (some ⟨g, 0, none⟩) i c) rfl rfl ?_; simp only [pS]; refine hM 3 (v := .slice (some ⟨g, 0, none⟩) (n + 1) c) rfl rfl ?_; simp only [pS]; refine hM 4 (v := .int .i64 ((i : Int) + 1)) rfl rfl ?_; simp only [pS]; refine hP 5 (v := .slice (some ⟨g, (i + 1) * 4, none⟩) (n + 1 - (i + 1)) (c - (i + 1))) rfl rfl (fun _ => by go_simp; (try (intro hh; omega))) ?_; simp only [pS]; refine hO 6 rfl rfl fun K hK => ?_; refine Lib.wp_append_run _ (.tmp 22) (.tmp 25) 94 94 rfl _ _ rfl rfl _ _ HE1.out ?_; refine hK.out _ _ HS5.out (fun hHeld => ?_); clear hK K
    (try simp only [pS])
    refine hM 7 (v := .slice (some ⟨g, 0, none⟩) n c) rfl rfl ?_; simp only [pS]; refine wpAnyH_done (by kernel_rfl) ?_ _; clear hHeld; have hcn : ¬ c = n := (by have := HN.out; omega); have q8 : (0 : Int) ≤ (n : Int) := (by omega)
    have HCL : Sl (∀ ty cc, (Builtin.clear_ #[94] ty #[.slice (some ⟨g, n * 4, none⟩) 1 cc]).run Tryz.prog w5 = .ok (.tuple #[]) (w5.setCells g (n * 4) [.nilFunc, .nilFunc, .int .i64 0, .int .i64 0])) := ⟨fun ty cc => run_clear_one w5 94 112 ty (.agg #[.nilFunc, .nilFunc, .int .i64 0, .int .i64 0]) Tryz.underlying94 zero_edt [.nilFunc, .nilFunc, .int .i64 0, .int .i64 0] (by kernel_rfl) (by decide) g (n * 4) cc
      (fun j hj => (own_room HE2.out (by have := HN.out; have hj : j < 4 := hj; omega)).1) (fun j hj => (own_room HE2.out (by have := HN.out; have hj : j < 4 := hj; omega)).2)⟩
    have HEND : Sl ((w5.setCells g (n * 4) [.nilFunc, .nilFunc, .int .i64 0, .int .i64 0]).ownsRow base 112 4 (.slice (some ⟨g, 0, none⟩) n c) n (xs.take (i * 4) ++ xs.drop ((i + 1) * 4)) ∧ w.grownBy (w5.setCells g (n * 4) [.nilFunc, .nilFunc, .int .i64 0, .int .i64 0]) (some g)) := ⟨own_spare HE2.out _ _ (Nat.le_refl _) (by have := HN.out; show n * 4 + 4 ≤ c * 4; omega), grownT (grownD HE3.out) (grown_setCells _ _ _ _)⟩; go_wp2_with (refine wpList_clear_run _ rfl (.tmp 31) 94 rfl _ rfl (HCL.out _ _) ?_); go_ret; exact ⟨rfl, HEND.out⟩
theorem wp_copy_runJ {P : Program} (w : World) {o : Oper} {a : Act} {K : Act → World → Prop} {Q : Exit → Act → World → Prop} (d s : Operand) (t t' : TypeId)
    (ho : o.op = .call { callee := .builtin .copy, args := #[d, s], argTypes := #[t, t'] }) (v u : Value) (hd : a.eval d = v) (hs : a.eval s = u) {v' : Value} {w' : World}
    (hr : (Builtin.copy_ #[t, t'] o.type #[v, u]).run P w = .ok v' w') (h : K (a.put o.dst v') w') : o.wp P a w K Q := by
  unfold Oper.wp execOp; simp only [ho, resolve, invoke, builtin, Sem.run_bind, Sem.run_pure, Result.andThen_ok, List.map_toArray, List.map_cons, List.map_nil, hd, hs, hr]; exact h
theorem wpList_copy_runJ {P : Program} (w : World) {ops : Array Oper} {rest : List Oper} {o : Oper} {a : Act} {Q : Exit → Act → World → Prop} (hgd : o.guard = none) (d s : Operand) (t t' : TypeId)
    (ho : o.op = .call { callee := .builtin .copy, args := #[d, s], argTypes := #[t, t'] }) (v u : Value) (hd : a.eval d = v) (hs : a.eval s = u) {v' : Value} {w' : World}
    (hr : (Builtin.copy_ #[t, t'] o.type #[v, u]).run P w = .ok v' w') (h : wpList P ops Q rest (a.put o.dst v') w') : wpList P ops Q (o :: rest) a w :=
  wpList_plain hgd fun _ hK => wp_copy_runJ w d s t t' ho v u hd hs hr (hK _ _ h)
theorem run_copy_sz {P : Program} (w : World) (dT sT ty elem : TypeId) (sz b o dLen dCap : Nat) (a : Addr) (sLen sCap m : Nat) (cs : List Value)
    (hu : P.underlying dT = some (.slice elem)) (hs : (P.info? elem).map (·.size) = some sz) (hm : m = Nat.min sLen dLen) (hn : cs.length = m * sz)
    (hsrc : ∀ j v, cs[j]? = some v → w.cell? (a.add j) = some v) (hc : ∀ j, j < cs.length → (w.cell? ⟨b, o + j, none⟩).isSome = true) (hf : ∀ j, j < cs.length → w.frozen? ⟨b, o + j, none⟩ = false) (h1 : ∀ v ∈ cs, v.oneCell' = true) :
    (Builtin.copy_ #[dT, sT] ty #[.slice (some ⟨b, o, none⟩) dLen dCap, .slice (some a) sLen sCap]).run P w = .ok (goInt m) (w.setCells b o cs) := by
  have hl := run_loadCells_list (P := P) w a cs hsrc; have hst := run_storeCells_cells (P := P) b o cs 0 w (by simpa using hc) (by simpa using hf) h1
  cases hq : P.info? elem with
  | none => simp [hq] at hs
  | some i =>
    have hi : i.size = sz := (by simpa [hq] using hs); simp [Builtin.copy_, run_underlying hu, Builtin.lenOf, Builtin.firstCells, sizeOf, typeInfo, hq, hi, ← hm, ← hn, hl, hst]
theorem add_at (g o j : Nat) : (⟨g, o, none⟩ : Addr).add j = ⟨g, o + j, none⟩ := by unfold Addr.add; split <;> simp_all
theorem put_mid {cur : Array Value} {xs : List Value} {i n : Nat} {x0 x1 : Value} (hx : xs.length = n * 2) (hi : i ≤ n) (hs : (n + 1) * 2 ≤ cur.size) (hc : ∀ j, j < i * 2 → cur[j]? = xs[j]?) :
    (putA (putA cur ((i + 1) * 2) (xs.drop (i * 2))) (i * 2) [x0, x1]).toList.take ((n + 1) * 2) = xs.take (i * 2) ++ [x0, x1] ++ xs.drop (i * 2) := by
  have hd : (xs.drop (i * 2)).length = n * 2 - i * 2 := (by rw [List.length_drop, hx]); have ht : (xs.take (i * 2)).length = i * 2 := (by rw [List.length_take]; omega); apply List.ext_getElem?; intro j
  by_cases hj : j < (n + 1) * 2
  · rw [List.getElem?_take_of_lt hj, Array.getElem?_toList, putA_get _ _ _ _ (by rw [putA_size]; show i * 2 + 2 ≤ _; omega)]
    by_cases h1 : i * 2 ≤ j ∧ j < i * 2 + [x0, x1].length
    · rw [if_pos h1]; have h2 : j < i * 2 + 2 := h1.2; rw [List.append_assoc, List.getElem?_append_right (by omega), ht, List.getElem?_append_left (by show _ < 2; omega)]
    · rw [if_neg h1, putA_get _ _ _ _ (by rw [hd]; omega)]; have h1 : ¬ (i * 2 ≤ j ∧ j < i * 2 + 2) := h1
      by_cases h3 : j < i * 2
      · rw [if_neg (by omega), hc j h3, List.append_assoc, List.getElem?_append_left (by omega), List.getElem?_take_of_lt h3]
      · rw [if_pos (by omega), List.getElem?_append_right (by rw [List.length_append, ht]; show i * 2 + 2 ≤ j; omega)]; rw [List.length_append, ht]; congr 1; show j - (i + 1) * 2 = j - (i * 2 + 2); omega
  · rw [List.getElem?_eq_none (by rw [List.length_take]; omega), List.getElem?_eq_none (by rw [List.length_append, List.length_append, ht, hd]; show i * 2 + 2 + _ ≤ j; omega)]
theorem put_mid2 {cur : Array Value} {xs : List Value} {i n : Nat} {x0 x1 : Value} (hx : xs.length = n * 2) (hi : i ≤ n) (hs : (n + 1) * 2 ≤ cur.size) (hc : ∀ j, j < i * 2 → cur[j]? = xs[j]?) :
    (putA (putA cur (i * 2) [x0, x1]) ((i + 1) * 2) (xs.drop (i * 2))).toList.take ((n + 1) * 2) = xs.take (i * 2) ++ [x0, x1] ++ xs.drop (i * 2) := by
  have hd : (xs.drop (i * 2)).length = n * 2 - i * 2 := (by rw [List.length_drop, hx]); rw [← put_mid hx hi hs hc]; apply List.ext_getElem?; intro j
  by_cases hj : j < (n + 1) * 2
  · rw [List.getElem?_take_of_lt hj, List.getElem?_take_of_lt hj, Array.getElem?_toList, Array.getElem?_toList, putA_get _ _ _ _ (by rw [putA_size, hd]; omega), putA_get _ _ _ _ (by show i * 2 + 2 ≤ _; omega), putA_get _ _ _ _ (by rw [putA_size]; show i * 2 + 2 ≤ _; omega), putA_get _ _ _ _ (by rw [hd]; omega)]; have e2 : [x0, x1].length = 2 := rfl; rw [e2]
    by_cases h1 : (i + 1) * 2 ≤ j ∧ j < (i + 1) * 2 + (xs.drop (i * 2)).length
    · rw [if_pos h1, if_neg (by omega), if_pos h1]
    · rw [if_neg h1, if_neg h1]
  · rw [List.getElem?_eq_none (by rw [List.length_take]; omega), List.getElem?_eq_none (by rw [List.length_take]; omega)]
theorem ins_room {base g n c i vb : Nat} {xs : List Value} {x0 x1 : Value} {w : World} (h : w.ownsRow base 45 2 (.slice (some ⟨g, 0, none⟩) n c) n xs) (hi : i < n) (hn : n ≤ 1000000) (h1 : ∀ u ∈ xs, u.oneCell' = true) (hr : n + 1 ≤ c)
    (hv : Blk w vb 45 #[x0, x1]) (hne : g ≠ vb) (hx : x0.oneCell' = true ∧ x1.oneCell' = true) :
    Calls Tryz.prog 108 #[.slice (some ⟨g, 0, none⟩) n c, .int .i64 (i : Int), .slice (some ⟨vb, 0, none⟩) 1 1] w fun en w' => en = .returned (.slice (some ⟨g, 0, none⟩) (n + 1) c) ∧
      w'.ownsRow base 45 2 (.slice (some ⟨g, 0, none⟩) (n + 1) c) (n + 1) (xs.take (i * 2) ++ [x0, x1] ++ xs.drop (i * 2)) ∧ w.grownBy w' (some g) := by
  obtain ⟨cur, hB, hcs, hct, hcm, hbg⟩ : ∃ cur, Blk w g 45 cur ∧ cur.size = c * 2 ∧ cur.toList.take (n * 2) = xs ∧ c ≤ 9223372036854775807 ∧ base ≤ g := by
    rcases h.2 with ⟨h0, _⟩ | ⟨g', cap, cur, e1, hb, hh, _, hm, hs, ht⟩
    · cases h0
    · injection e1 with a _ c'
      injection a with a
      injection a with a
      subst a c'; exact ⟨cur, hh, hs, ht, by unfold maxLen at hm; exact hm, hb⟩
  have hlen := h.1; have hcur : ∀ j, j < n * 2 → cur[j]? = xs[j]? := fun j hj => by rw [← hct, List.getElem?_take_of_lt hj, Array.getElem?_toList]
  have hdl : (xs.drop (i * 2)).length = (n - i) * 2 := (by rw [List.length_drop, hlen, Nat.sub_mul]); have hin : Nat.min (n + 1 - i) (n + 1 - (i + 1)) = n - i := (by simp only [Nat.min_def]; split <;> omega); have hi1 : Nat.min 1 (n + 1 - i) = 1 := (by simp only [Nat.min_def]; split <;> omega); have hsz : (Tryz.prog.info? 45).map (·.size) = some 2 := (by kernel_rfl)
  have HC1 : Sl (∀ ty dc sc, (Builtin.copy_ #[36, 36] ty #[.slice (some ⟨g, (i + 1) * 2, none⟩) (n + 1 - (i + 1)) dc, .slice (some ⟨g, i * 2, none⟩) (n + 1 - i) sc]).run Tryz.prog w.drew = .ok (goInt ((n - i : Nat) : Int)) (w.drew.setCells g ((i + 1) * 2) (xs.drop (i * 2)))) := ⟨fun ty dc sc =>
    run_copy_sz w.drew _ _ ty 45 2 g ((i + 1) * 2) (n + 1 - (i + 1)) dc ⟨g, i * 2, none⟩ (n + 1 - i) sc (n - i) _ Tryz.underlying36 hsz hin.symm hdl
      (fun j v hj => by
        rw [List.getElem?_drop] at hj; have hl : i * 2 + j < n * 2 := (by rw [← hlen]; exact (List.getElem?_eq_some_iff.1 hj).1); rw [add_at]
        exact (hB.cell _).trans ((hcur _ hl).trans hj))
      (fun j hj => by rw [hdl] at hj; have := own_room h (j := (i + 1) * 2 + j) (by omega); exact this.1)
      (fun j hj => by rw [hdl] at hj; have := own_room h (j := (i + 1) * 2 + j) (by omega); exact this.2) (fun v hv => h1 v (List.mem_of_mem_drop hv))⟩
  have hB5 : Blk (w.drew.setCells g ((i + 1) * 2) (xs.drop (i * 2))) g 45 (putA cur ((i + 1) * 2) (xs.drop (i * 2))) := Blk.setCells (w := w) _ _ w.drew cur hB; have hm5 : Mv g w (w.drew.setCells g ((i + 1) * 2) (xs.drop (i * 2))) := Mv.trans (Mv.drew g w) (Mv.setCells _ _ _ _); have HM5 : Sl _ := ⟨hm5⟩; have HB5 : Sl _ := ⟨hB5⟩; have hv5 := hv.mv hm5 (fun e => hne e.symm); clear hm5 hB5; generalize w.drew.setCells g ((i + 1) * 2) (xs.drop (i * 2)) = w5 at *
  have HC2 : Sl (∀ ty dc, (Builtin.copy_ #[36, 36] ty #[.slice (some ⟨g, i * 2, none⟩) (n + 1 - i) dc, .slice (some ⟨vb, 0, none⟩) 1 1]).run Tryz.prog w5 = .ok (goInt 1) (w5.setCells g (i * 2) [x0, x1])) := ⟨fun ty dc =>
    run_copy_sz w5 _ _ ty 45 2 g (i * 2) (n + 1 - i) dc ⟨vb, 0, none⟩ 1 1 1 [x0, x1] Tryz.underlying36 hsz hi1.symm rfl
      (fun j v hj => by
        rw [add_at, hv5.cell]; rcases j with _ | _ | j
        · exact hj
        · exact hj
        · cases hj)
      (fun j hj => by
        have hj : j < 2 := hj
        rw [HB5.out.cell, Array.getElem?_eq_getElem (by rw [putA_size, hcs]; omega)]; rfl)
      (fun j hj => HB5.out.frozen _) (fun v hv => by
        rcases List.mem_cons.1 hv with rfl | hv
        · exact hx.1
        · rw [List.mem_singleton.1 hv]; exact hx.2)⟩
  have HEND : Sl ((w5.setCells g (i * 2) [x0, x1]).ownsRow base 45 2 (.slice (some ⟨g, 0, none⟩) (n + 1) c) (n + 1) (xs.take (i * 2) ++ [x0, x1] ++ xs.drop (i * 2)) ∧ w.grownBy (w5.setCells g (i * 2) [x0, x1]) (some g)) := by
    refine ⟨⟨?_, .inr ⟨g, c, _, rfl, hbg, Blk.setCells (w := w5) [x0, x1] (i * 2) w5 _ HB5.out, hr, by unfold maxLen; exact hcm, by rw [putA_size, putA_size]; exact hcs, put_mid hlen (Nat.le_of_lt hi) (by omega) (fun j hj => hcur j (by omega))⟩⟩, grown_of_mv (Mv.trans HM5.out (Mv.setCells _ _ _ _))⟩; rw [List.length_append, List.length_append, hdl, List.length_take, hlen]; show min (i * 2) (n * 2) + 2 + (n - i) * 2 = (n + 1) * 2; omega
  have hov : ∀ lb cb, (callFunc 142 #[.slice (some ⟨vb, 0, none⟩) 1 1, .slice (some ⟨g, (i + 1) * 2, none⟩) lb cb]).run Tryz.prog w = .ok (.value (.bool false)) w := fun lb cb => by
    have hsa : w.shape? vb = some (45, 2) := (by unfold World.shape?; rw [show w.heap[vb]? = _ from hv]; rfl); have hsb : w.shape? g = some (45, c * 2) := (by unfold World.shape?; rw [show w.heap[g]? = _ from hB, ← hcs])
    rw [run_callFunc_extern Tryz.func142 (by kernel_rfl) (by kernel_rfl) (by kernel_rfl) (e := Extern.SlicesOverlaps.overlaps #[36, 36] #[4]) (by kernel_rfl),
      Lib.run_overlaps_apart w 36 4 45 Tryz.underlying36 2 (fun w => by kernel_rfl) ⟨vb, 0, none⟩ ⟨g, (i + 1) * 2, none⟩ 1 1 lb cb (fun e => hne e.symm) 45 45 2 (c * 2) hsa hsb (by omega) (hv.frozen 0) (hv.frozen 2)]
    rfl
  have q0 : (0 : Int) ≤ (i : Int) := (by omega); have q1 : (i : Int) ≤ (n : Int) := (by omega); have q2 : ((i : Int) == (n : Int)) = false := (by rw [beq_eq_false_iff_ne]; omega); have q3 : decide ((c : Int) < (n : Int) + 1) = false := decide_eq_false (by omega); have q4 : (n : Int) + 1 ≤ (c : Int) := (by omega); have q5 : (0 : Int) ≤ (n : Int) + 1 := (by omega); have q6 : (i : Int) + 1 ≤ (n : Int) + 1 := (by omega); have q7 : ((i : Int) + 1).toNat = i + 1 := (by omega); have q8 : ((n : Int) + 1).toNat = n + 1 := (by omega); have q9 : ¬ c = i + 1 := (by omega); have q10 : ¬ c = i := (by omega); have q11 : (i : Int) ≤ (n : Int) + 1 := (by omega); have w1 : IntKind.i64.wrap ((n : Int) + 1) = (n : Int) + 1 := (by rw [IntKind.wrap_i64]; omega); have w2 : IntKind.i64.wrap ((i : Int) + 1) = (i : Int) + 1 := (by rw [IntKind.wrap_i64]; omega); have hS1 : Below 0 w w.drew := Below.drew (Below.refl _ _); have HS5 : Sl (Below 0 w w5) := ⟨⟨HM5.out.os, HM5.out.tape, HM5.out.output, HM5.out.size, fun k hk => by omega⟩⟩; clear h hB hcs hct hcm hbg hlen hcur hdl hin hi1 hsz hv hv5 h1 hr hne hx HM5 HB5; go_enter Tryz.func108, Tryz.ntmps108; go_wp2_with (simp only [hov]); clear hov; have hm := hS1; refine wp_region_held_drew (S := fun w' => Below 0 w w') (by kernel_rfl) hm (fun hHeld => ?_); clear hm; refine hM 0 (v := .slice (some ⟨g, 0, none⟩) (n + 1) c) rfl rfl ?_; simp only [pS]; refine hM 1 (v := .int .i64 (i : Int)) rfl rfl ?_; simp only [pS]; refine hM 2 (v := .int .i64 1) rfl rfl ?_; simp only [pS]; refine hS 3 (v := .int .i64 ((i : Int) + 1)) rfl rfl ?_; simp only [pS]; refine hP 4 (v := .slice (some ⟨g, (i + 1) * 2, none⟩) (n + 1 - (i + 1)) (c - (i + 1))) rfl rfl (fun _ => by go_simp; (try (intro hh; omega))) ?_; simp only [pS]; refine hM 5 (v := .slice (some ⟨g, 0, none⟩) (n + 1) c) rfl rfl ?_; simp only [pS]; refine hM 6 (v := .int .i64 (i : Int)) rfl rfl ?_; simp only [pS]
  refine hP 7 (v := .slice (some ⟨g, i * 2, none⟩) (n + 1 - i) (c - i)) rfl rfl (fun _ => by go_simp; (try (intro hh; omega))) ?_; simp only [pS]; refine hO 8 rfl rfl fun K hK => ?_; refine wp_copy_runJ _ (.tmp 73) (.tmp 76) 36 36 rfl _ _ rfl rfl (HC1.out _ _ _) ?_; refine hK.out _ _ HS5.out (fun hHeld => ?_); clear hK K
  (try simp only [pS])
  refine wpAnyH_done (by kernel_rfl) ?_ _; clear hHeld; go_wp2_with (refine wpList_copy_runJ _ rfl (.tmp 80) (.tmp 81) 36 36 rfl _ _ rfl rfl (HC2.out _ _) ?_); go_ret; exact ⟨rfl, HEND.out⟩
def InsR (base : Nat) (A : Option Addr) (n c : Nat) (ys : List Value) (w : World) (en : Ending) (w' : World) : Prop :=
  ∃ A' c', en = .returned (.slice A' (n + 1) c') ∧ w'.ownsRow base 45 2 (.slice A' (n + 1) c') (n + 1) ys ∧ w.grownBy w' (Value.slice A n c).ownBlock ∧
    ((Value.slice A' (n + 1) c').ownBlock = (Value.slice A n c).ownBlock ∨ ∃ g, (Value.slice A' (n + 1) c').ownBlock = some g ∧ w.heap.size ≤ g)
theorem ins_end {base n c vb : Nat} {A : Option Addr} {xs : List Value} {x0 x1 : Value} {w : World} (h : w.ownsRow base 45 2 (.slice A n c) n xs) (hn : n ≤ 1000000) (hb : base ≤ w.heap.size)
    (hv : Blk w vb 45 #[x0, x1]) (hx : x0.oneCell' = true ∧ x1.oneCell' = true) :
    Calls Tryz.prog 108 #[.slice A n c, .int .i64 (n : Int), .slice (some ⟨vb, 0, none⟩) 1 1] w fun en w' => InsR base A n c (xs ++ [x0, x1]) w en w' := by
  obtain ⟨ii, k1, k2, k3, k4⟩ := info_reg
  have HRD : Sl (Reads w w.heap.size 2 (some ⟨vb, 0, none⟩) 1 [x0, x1]) := ⟨⟨rfl, fun _ => ⟨_, rfl, hv.lt, fun j u hu => by
    rw [add_at, hv.cell]; rcases j with _ | _ | j
    · exact hu
    · exact hu
    · cases hu⟩⟩⟩
  have HX : Sl (∀ u ∈ [x0, x1], u.oneCell' = true) := ⟨fun v hv => by
    rcases List.mem_cons.1 hv with rfl | hv
    · exact hx.1
    · rw [List.mem_singleton.1 hv]; exact hx.2⟩
  have HI : Sl _ := ⟨And.intro k1 (And.intro k2 (And.intro k3 k4))⟩; have HO : Sl _ := ⟨h⟩; have HB : Sl _ := ⟨hb⟩
  have hc : n ≤ c ∧ c ≤ maxLen ∧ (A = none → n = 0 ∧ c = 0) ∧ ∀ ad, A = some ad → ad.off = 0 ∧ ad = ⟨ad.block, 0, none⟩ := by
    rcases h.2 with ⟨h0, h00⟩ | ⟨g', cap, cur, e1, hb, hh, hcc, hm, hs, ht⟩
    · injection h0 with a b c'
      subst a b c'; exact ⟨Nat.le_refl _, Nat.zero_le _, (fun _ => ⟨rfl, rfl⟩), (fun ad e => by cases e)⟩
    · injection e1 with a _ c'
      subst a c'; exact ⟨hcc, hm, (fun e => by cases e), (fun ad e => by injection e with e; subst e; exact ⟨rfl, rfl⟩)⟩
  obtain ⟨hnc, hcm, hnone, hsome⟩ := hc; unfold maxLen at hcm; have q0 : (0 : Int) ≤ (n : Int) := (by omega); have HN : Sl (n + 1 ≤ maxLen ∧ (n + 1) * 48 ≤ 140737488355328) := ⟨by unfold maxLen; omega⟩; have q1 : ((n : Int) == (n : Int)) = true := (by simp); clear h hb hv hx k1 k2 k3 k4
  have key : ∀ v' w', w'.ownsRow base 45 2 v' (n + 1) (xs ++ [x0, x1]) → w.grownBy w' (Value.slice A n c).ownBlock → (v'.ownBlock = (Value.slice A n c).ownBlock ∨ v'.ownBlock = some w.heap.size) → InsR base A n c (xs ++ [x0, x1]) w (.returned v') w' := fun v' w' h5 h6 h7 => by
    rcases h5.2 with ⟨rfl, h0⟩ | ⟨g, cap, cur, rfl, _⟩
    · omega
    · exact ⟨_, _, rfl, h5, h6, h7.imp id fun e => ⟨_, e, Nat.le_refl _⟩⟩
  have HK : Sl _ := ⟨key⟩; clear key
  cases A with
  | none =>
    obtain ⟨rfl, rfl⟩ := hnone rfl; clear hnone hsome; go_enter Tryz.func108, Tryz.ntmps108; go_wp2_with (at_builtin; go_loud (refine wpList_append_any (P := Tryz.prog) _ rfl (.tmp 23) (.tmp 24) _ rfl base 45 ii _ 2 48 Tryz.underlying36 HI.out.1 HI.out.2.2.1 HI.out.2.1 HI.out.2.2.2 rfl (by decide) _ 0 _ rfl HO.out w.heap.size (some ⟨vb, 0, none⟩) 1 1 [x0, x1] rfl HRD.out HX.out HN.out.1 HN.out.2 HB.out ?_); rintro v' w' h5 h6 h7; have HE : Sl _ := ⟨HK.out v' w' h5 h6 h7⟩; clear h5 h6 h7); go_ret; exact HE.out
  | some ad =>
    obtain ⟨_, e⟩ := hsome ad rfl; obtain ⟨g, hg⟩ : ∃ g, ad.block = g := ⟨_, rfl⟩; rw [hg] at e; subst e; clear hsome hnone hg
    by_cases hcn : c = n
    · subst hcn; go_enter Tryz.func108, Tryz.ntmps108; go_wp2_with (at_builtin; go_loud (refine wpList_append_any (P := Tryz.prog) _ rfl (.tmp 23) (.tmp 24) _ rfl base 45 ii _ 2 48 Tryz.underlying36 HI.out.1 HI.out.2.2.1 HI.out.2.1 HI.out.2.2.2 rfl (by decide) _ c _ rfl HO.out w.heap.size (some ⟨vb, 0, none⟩) 1 1 [x0, x1] rfl HRD.out HX.out HN.out.1 HN.out.2 HB.out ?_); rintro v' w' h5 h6 h7; have HE : Sl _ := ⟨HK.out v' w' h5 h6 h7⟩; clear h5 h6 h7); go_ret; exact HE.out
    · have q2 : ¬ c = n := hcn; have q3 : (n : Int) ≤ (c : Int) := (by omega); clear hcn; go_enter Tryz.func108, Tryz.ntmps108; go_wp2_with (at_builtin; go_loud (refine wpList_append_any (P := Tryz.prog) _ rfl (.tmp 23) (.tmp 24) _ rfl base 45 ii _ 2 48 Tryz.underlying36 HI.out.1 HI.out.2.2.1 HI.out.2.1 HI.out.2.2.2 rfl (by decide) _ n _ rfl HO.out w.heap.size (some ⟨vb, 0, none⟩) 1 1 [x0, x1] rfl HRD.out HX.out HN.out.1 HN.out.2 HB.out ?_); rintro v' w' h5 h6 h7; have HE : Sl _ := ⟨HK.out v' w' h5 h6 h7⟩; clear h5 h6 h7); go_ret; exact HE.out
theorem ins_grow {base g n i vb : Nat} {xs : List Value} {x0 x1 : Value} {w : World} (h : w.ownsRow base 45 2 (.slice (some ⟨g, 0, none⟩) n n) n xs) (hi : i < n) (hn : n ≤ 1000000) (hbw : base ≤ w.heap.size) (h1 : ∀ u ∈ xs, u.oneCell' = true)
    (hv : Blk w vb 45 #[x0, x1]) (hx : x0.oneCell' = true ∧ x1.oneCell' = true) :
    Calls Tryz.prog 108 #[.slice (some ⟨g, 0, none⟩) n n, .int .i64 (i : Int), .slice (some ⟨vb, 0, none⟩) 1 1] w fun en w' => InsR base (some ⟨g, 0, none⟩) n n (xs.take (i * 2) ++ [x0, x1] ++ xs.drop (i * 2)) w en w' := by
  obtain ⟨ii, k1, k2, k3, k4⟩ := info_reg
  obtain ⟨cur, hB, hcs, hct, hcm, hbg⟩ : ∃ cur, Blk w g 45 cur ∧ cur.size = n * 2 ∧ cur.toList.take (n * 2) = xs ∧ n ≤ 9223372036854775807 ∧ base ≤ g := by
    rcases h.2 with ⟨h0, _⟩ | ⟨g', cap, cur, e1, hb, hh, _, hm, hs, ht⟩
    · cases h0
    · injection e1 with a _ c'
      injection a with a
      injection a with a
      subst a c'; exact ⟨cur, hh, hs, ht, by unfold maxLen at hm; exact hm, hb⟩
  have hlen := h.1; have hcur : ∀ j, j < n * 2 → cur[j]? = xs[j]? := fun j hj => by rw [← hct, List.getElem?_take_of_lt hj, Array.getElem?_toList]
  have hdl : (xs.drop (i * 2)).length = (n - i) * 2 := (by rw [List.length_drop, hlen, Nat.sub_mul]); have hin : n - i = Nat.min (n - i) (n + 1 - (i + 1)) := (by simp only [Nat.min_def]; split <;> omega); have hi1 : Nat.min 1 (n + 1 - i) = 1 := (by simp only [Nat.min_def]; split <;> omega); have hsz : (Tryz.prog.info? 45).map (·.size) = some 2 := (by rw [k1]; simp [k2])
  have hold : (Builtin.firstCells ii.size i (.slice (some ⟨g, 0, none⟩) i n)).run Tryz.prog w.drew = .ok (xs.take (i * 2)).toArray w.drew := by
    rw [k2]; refine run_firstCells_some w.drew 2 i ⟨g, 0, none⟩ i n (xs.take (i * 2)) (by rw [List.length_take]; omega) (fun j v hj => ?_); have hl : j < i * 2 := (by have := (List.getElem?_eq_some_iff.1 hj).1; rw [List.length_take] at this; omega); rw [List.getElem?_take_of_lt hl] at hj; rw [add_at, Nat.zero_add]; exact (hB.cell _).trans ((hcur _ (by omega)).trans hj)
  obtain ⟨G, hG⟩ : ∃ G, grownCap w (n + 1) n 45 = G := ⟨_, rfl⟩; obtain ⟨Z, hZ⟩ : ∃ Z : Value, Z = .agg #[.slice none 0 0, .slice none 0 0] := ⟨_, rfl⟩; rw [← hZ] at k3; have hZc : Z.cells.size = 2 := (by rw [hZ]; rfl); obtain ⟨ROW, hROW⟩ : ∃ ROW : Array Value, (xs.take (i * 2)).toArray ++ Builtin.zeroCells Z.cells (n + 1 - i) ++ Builtin.zeroCells Z.cells (G - (n + 1)) = ROW := ⟨_, rfl⟩; have hGn : n + 1 ≤ G := (by rw [← hG]; exact grownCap_ge w _ _ _)
  have hG63 : G ≤ 9223372036854775807 := by
    have := grownCap_le_maxLen w (n + 1) n 45 (by unfold maxLen; omega); rw [hG] at this; unfold maxLen at this; omega
  have hzs : ∀ k, (Builtin.zeroCells Z.cells k).size = k * 2 := fun k => by rw [size_zeroCells, hZc]
  have hRs : ROW.size = G * 2 := by
    rw [← hROW, Array.size_append, Array.size_append, hzs, hzs, List.size_toArray, List.length_take]; omega
  have hRt : ∀ j, j < i * 2 → ROW[j]? = xs[j]? := fun j hj => by
    rw [← hROW, Array.getElem?_append_left (by rw [Array.size_append, List.size_toArray, List.length_take]; omega), Array.getElem?_append_left (by rw [List.size_toArray, List.length_take]; omega)]; rw [List.getElem?_toArray, List.getElem?_take_of_lt hj]
  have hrz : ∀ ty, (Builtin.append_ #[36, 3] ty #[.slice (some ⟨g, 0, none⟩) i n, .int .i64 ((n : Int) + 1 - (i : Int))]).run Tryz.prog w = .ok (.slice (some ⟨w.heap.size, 0, none⟩) (n + 1) G) (w.drew.alloc (.cells ROW 45)) := fun ty => by
    have h := Lib.run_append_grow_zeros w 36 3 ty 45 ii Z .i64 .i64 Tryz.underlying36 Tryz.underlying3 k1 k3 (some ⟨g, 0, none⟩) i n (xs.take (i * 2)) hold (n + 1 - i) (by omega) (by omega) (by omega) (by omega) (by rw [k4]; omega) (by rw [k4, show i + (n + 1 - i) = n + 1 by omega]; exact growslice_fits (by omega) (by omega)); rw [show i + (n + 1 - i) = n + 1 by omega, hG, hROW] at h; rw [show (n : Int) + 1 - (i : Int) = ((n + 1 - i : Nat) : Int) by omega]; exact h
  obtain ⟨ng, hng⟩ : ∃ ng, w.heap.size = ng := ⟨_, rfl⟩; have hB1 : Blk (w.drew.alloc (.cells ROW 45)) ng 45 ROW := (by rw [← hng]; exact Blk.new w.drew 45 ROW); have hb1 : Below w.heap.size w (w.drew.alloc (.cells ROW 45)) := ((Below.refl w.heap.size w).drew).alloc (by simp) _; rw [hng] at hrz; have hgn : g ≠ ng := (by have := hB.lt; omega); have hvn : vb ≠ ng := (by have := hv.lt; omega); have hm1 : Mv ng w (w.drew.alloc (.cells ROW 45)) := ⟨hb1.os, hb1.tape, hb1.output, hb1.size, fun k hk hne => hb1.block k hk⟩; generalize w.drew.alloc (.cells ROW 45) = W1 at *
  have hv1 := hv.mv hm1 (fun e => hvn e); have hg1 := hB.mv hm1 (fun e => hgn e)
  have HC2 : Sl (∀ ty dc, (Builtin.copy_ #[36, 36] ty #[.slice (some ⟨ng, i * 2, none⟩) (n + 1 - i) dc, .slice (some ⟨vb, 0, none⟩) 1 1]).run Tryz.prog W1 = .ok (goInt 1) (W1.setCells ng (i * 2) [x0, x1])) := ⟨fun ty dc =>
    run_copy_sz W1 _ _ ty 45 2 ng (i * 2) (n + 1 - i) dc ⟨vb, 0, none⟩ 1 1 1 [x0, x1] Tryz.underlying36 hsz hi1.symm rfl
      (fun j v hj => by
        rw [add_at, hv1.cell]; rcases j with _ | _ | j
        · exact hj
        · exact hj
        · cases hj)
      (fun j hj => by
        have hj : j < 2 := hj
        rw [hB1.cell, Array.getElem?_eq_getElem (by rw [hRs]; omega)]; rfl)
      (fun j hj => hB1.frozen _) (fun v hv => by
        rcases List.mem_cons.1 hv with rfl | hv
        · exact hx.1
        · rw [List.mem_singleton.1 hv]; exact hx.2)⟩
  have hB2 : Blk (W1.setCells ng (i * 2) [x0, x1]) ng 45 (putA ROW (i * 2) [x0, x1]) := Blk.setCells (w := W1) _ _ W1 ROW hB1; have hm2 : Mv ng w (W1.setCells ng (i * 2) [x0, x1]) := Mv.trans hm1 (Mv.setCells _ _ _ _); generalize W1.setCells ng (i * 2) [x0, x1] = W2 at *
  have hg2 := hB.mv hm2 (fun e => hgn e)
  have HC1 : Sl (∀ ty dc sc, (Builtin.copy_ #[36, 36] ty #[.slice (some ⟨ng, (i + 1) * 2, none⟩) (n + 1 - (i + 1)) dc, .slice (some ⟨g, i * 2, none⟩) (n - i) sc]).run Tryz.prog W2.drew = .ok (goInt ((n - i : Nat) : Int)) (W2.drew.setCells ng ((i + 1) * 2) (xs.drop (i * 2)))) := ⟨fun ty dc sc =>
    run_copy_sz W2.drew _ _ ty 45 2 ng ((i + 1) * 2) (n + 1 - (i + 1)) dc ⟨g, i * 2, none⟩ (n - i) sc (n - i) _ Tryz.underlying36 hsz hin hdl
      (fun j v hj => by
        rw [List.getElem?_drop] at hj; have hl : i * 2 + j < n * 2 := (by rw [← hlen]; exact (List.getElem?_eq_some_iff.1 hj).1); rw [add_at]
        exact (hg2.cell _).trans ((hcur _ hl).trans hj))
      (fun j hj => by
        rw [hdl] at hj; refine (congrArg Option.isSome (hB2.cell ((i + 1) * 2 + j))).trans ?_
        rw [Array.getElem?_eq_getElem (by rw [putA_size, hRs]; omega)]; rfl)
      (fun j hj => hB2.frozen _) (fun v hv => h1 v (List.mem_of_mem_drop hv))⟩
  have HEND : Sl (InsR base (some ⟨g, 0, none⟩) n n (xs.take (i * 2) ++ [x0, x1] ++ xs.drop (i * 2)) w (.returned (.slice (some ⟨ng, 0, none⟩) (n + 1) G)) (W2.drew.setCells ng ((i + 1) * 2) (xs.drop (i * 2)))) := by
    have hm3 : Mv ng w (W2.drew.setCells ng ((i + 1) * 2) (xs.drop (i * 2))) := Mv.trans hm2 (Mv.trans (Mv.drew ng W2) (Mv.setCells _ _ _ _)); refine ⟨⟨_, _, rfl, ⟨?_, .inr ⟨ng, G, _, rfl, by omega, Blk.setCells (w := W2.drew) (xs.drop (i * 2)) ((i + 1) * 2) W2.drew _ hB2, hGn, by unfold maxLen; exact hG63, by rw [putA_size, putA_size]; exact hRs, put_mid2 hlen (Nat.le_of_lt hi) (by omega) hRt⟩⟩, ⟨hm3.os, hm3.tape, hm3.output, hm3.size, fun k hk _ => hm3.block k hk (by omega)⟩, .inr ⟨ng, rfl, by omega⟩⟩⟩; rw [List.length_append, List.length_append, hdl, List.length_take, hlen]; show min (i * 2) (n * 2) + 2 + (n - i) * 2 = (n + 1) * 2; omega
  have q0 : (0 : Int) ≤ (i : Int) := (by omega); have q1 : (i : Int) ≤ (n : Int) := (by omega); have q2 : ((i : Int) == (n : Int)) = false := (by rw [beq_eq_false_iff_ne]; omega); have q3 : decide ((n : Int) < (n : Int) + 1) = true := decide_eq_true (by omega); have q5 : (i : Int) ≤ (n : Int) + 1 := (by omega); have q6 : (i : Int) + 1 ≤ (n : Int) + 1 := (by omega); have q6b : (0 : Int) ≤ (i : Int) + 1 := (by omega); have q7 : ((i : Int) + 1).toNat = i + 1 := (by omega); have q8 : ¬ n = i := (by omega); have q9 : ¬ G = i := (by omega); have q10 : ¬ G = i + 1 := (by omega); have q11 : n + 1 ≤ G := hGn; have w1 : IntKind.i64.wrap ((n : Int) + 1) = (n : Int) + 1 := (by rw [IntKind.wrap_i64]; omega); have w2 : IntKind.i64.wrap ((i : Int) + 1) = (i : Int) + 1 := (by rw [IntKind.wrap_i64]; omega); have w3 : IntKind.i64.wrap ((n : Int) + 1 - (i : Int)) = (n : Int) + 1 - (i : Int) := (by rw [IntKind.wrap_i64]; omega); have HRZ : Sl _ := ⟨hrz⟩; have hS1 : Below 0 w W2.drew := Below.drew ⟨hm2.os, hm2.tape, hm2.output, hm2.size, fun k hk => by omega⟩
  have HS3 : Sl (Below 0 w (W2.drew.setCells ng ((i + 1) * 2) (xs.drop (i * 2)))) := ⟨by
    have hm3 : Mv ng w (W2.drew.setCells ng ((i + 1) * 2) (xs.drop (i * 2))) := Mv.trans hm2 (Mv.trans (Mv.drew ng W2) (Mv.setCells _ _ _ _))
    exact ⟨hm3.os, hm3.tape, hm3.output, hm3.size, fun k hk => by omega⟩⟩
  clear h hB hcs hct hcm hbg hlen hcur hdl hin hi1 hsz hv hv1 h1 hx hB1 hB2 hm1 hm2 hg1 hg2 hrz hRs hRt hzs hROW hZc hZ k1 k2 k3 k4 hold hb1 hgn hvn hG hGn hG63 hng; go_enter Tryz.func108, Tryz.ntmps108
  go_wp2_with (first
    | (at_builtin; refine Lib.wpList_append_run _ rfl _ _ _ _ rfl _ _ rfl rfl _ _ (HRZ.out _) ?_)
    | (refine wpList_copy_runJ _ rfl (.tmp 43) (.tmp 44) 36 36 rfl _ _ rfl rfl (HC2.out _ _) ?_))
  have hm := hS1; refine wp_region_held_drew (S := fun w' => Below 0 w w') (by kernel_rfl) hm (fun hHeld => ?_); clear hm; refine hM 0 (v := .slice (some ⟨ng, 0, none⟩) (n + 1) G) rfl rfl ?_; simp only [pS]; refine hM 1 (v := .int .i64 (i : Int)) rfl rfl ?_; simp only [pS]; refine hM 2 (v := .int .i64 1) rfl rfl ?_; simp only [pS]; refine hS 3 (v := .int .i64 ((i : Int) + 1)) rfl rfl ?_; simp only [pS]; refine hP 4 (v := .slice (some ⟨ng, (i + 1) * 2, none⟩) (n + 1 - (i + 1)) (G - (i + 1))) rfl rfl (fun _ => by go_simp; (try (intro hh; omega))) ?_; simp only [pS]; refine hM 5 (v := .slice (some ⟨g, 0, none⟩) n n) rfl rfl ?_; simp only [pS]; refine hM 6 (v := .int .i64 (i : Int)) rfl rfl ?_; simp only [pS]; refine hP 7 (v := .slice (some ⟨g, i * 2, none⟩) (n - i) (n - i)) rfl rfl (fun _ => by go_simp; (try (intro hh; omega))) ?_; simp only [pS]; refine hO 8 rfl rfl fun K hK => ?_; refine wp_copy_runJ _ (.tmp 50) (.tmp 53) 36 36 rfl _ _ rfl rfl (HC1.out _ _ _) ?_; refine hK.out _ _ HS3.out (fun hHeld => ?_); clear hK K
  (try simp only [pS])
  refine wpAnyH_done (by kernel_rfl) ?_ _; clear hHeld; go_wp2_with fail; go_ret; exact HEND.out
theorem ins_any {base n c i vb : Nat} {A : Option Addr} {xs : List Value} {x0 x1 : Value} {w : World} (h : w.ownsRow base 45 2 (.slice A n c) n xs) (hi : i ≤ n) (hn : n ≤ 1000000) (hbw : base ≤ w.heap.size) (h1 : ∀ u ∈ xs, u.oneCell' = true)
    (hv : Blk w vb 45 #[x0, x1]) (hne : ∀ g, (Value.slice A n c).ownBlock = some g → g ≠ vb) (hx : x0.oneCell' = true ∧ x1.oneCell' = true) :
    Calls Tryz.prog 108 #[.slice A n c, .int .i64 (i : Int), .slice (some ⟨vb, 0, none⟩) 1 1] w fun en w' => InsR base A n c (xs.take (i * 2) ++ [x0, x1] ++ xs.drop (i * 2)) w en w' := by
  have hlen := h.1
  by_cases hin : i = n
  · subst hin; rw [List.take_of_length_le (by omega), List.drop_eq_nil_of_le (by omega), List.append_nil]; exact ins_end h hn hbw hv hx
  · rcases h.2 with ⟨h0, h00⟩ | ⟨g, cap, cur, e1, hb, hh, hcc, hm, hs, ht⟩
    · omega
    · injection e1 with a _ c'
      subst a c'
      by_cases hr : n + 1 ≤ c
      · refine (ins_room h (by omega) hn h1 hr hv (hne g rfl) hx).mono ?_; rintro en w' ⟨rfl, ho, hg⟩; exact ⟨_, _, rfl, ho, hg, .inl rfl⟩
      · obtain rfl : c = n := (by omega); exact ins_grow h (by omega) hn hbw h1 hv hx
def Dep (w : World) (imm : Nat → Prop) (P : World → Prop) : Prop := ∀ w', MvP (fun i => ¬ imm i) w w' → P w'
theorem Dep.now {w : World} {imm : Nat → Prop} {P : World → Prop} (h : Dep w imm P) : P w := h w (MvP.refl _ _)
theorem Dep.go {w w' : World} {imm p : Nat → Prop} {P : World → Prop} (h : Dep w imm P) (hm : MvP p w w') (hp : ∀ i, imm i → ¬ p i) : Dep w' imm P := fun w2 h2 => h w2 ((hm.mono fun i e e2 => hp i e2 e).trans h2)
theorem Dep.more {w : World} {imm imm' : Nat → Prop} {P : World → Prop} (h : Dep w imm P) (hi : ∀ i, imm i → imm' i) : Dep w imm' P := fun w2 h2 => h w2 (h2.mono fun i e e2 => e (hi i e2))
theorem Dep.blk {w : World} {imm : Nat → Prop} {g : Nat} {t : TypeId} {cs : Array Value} (h : Blk w g t cs) (hg : imm g) : Dep w imm fun w' => Blk w' g t cs := fun w' hm => hm.blk h (fun e => e hg)
theorem Dep.old {w : World} {imm : Nat → Prop} {P : World → Prop} (h : ∀ w', Below w.heap.size w w' → P w') (hi : ∀ i, i < w.heap.size → imm i) : Dep w imm P :=
  fun w' hm => h w' ⟨hm.os, hm.tape, hm.output, hm.size, fun k hk => hm.block k hk (fun e => e (hi k hk))⟩
theorem Dep.reg {w : World} {b : Nat} {imm : Nat → Prop} {r : RgV} (h : RgO w b r) (hi : ∀ i, b ≤ i → i < w.heap.size → imm i) : Dep w imm fun w' => RgM w' r := fun w' hm =>
  ((RgI.of_own h).kept hm (fun i hh e => e (hi i hh.1 hh.2)) (fun i hh => hh.2)).m
structure SqM where
  q : Nat
  FA : Option Addr
  fc : Nat
  EA : Option Addr
  ec : Nat
  VE : List (Value × Value)
  imm : Nat → Prop
def blkOf (A : Option Addr) (i : Nat) : Prop := ∃ ad, A = some ad ∧ ad.block = i
theorem blkOf_own {A : Option Addr} {n c i : Nat} : blkOf A i ↔ (Value.slice A n c).ownBlock = some i := by
  cases A with
  | none => exact ⟨(fun ⟨_, h, _⟩ => by cases h), (fun h => by cases h)⟩
  | some a => exact ⟨(fun ⟨ad, h, e⟩ => by injection h with h; subst h; exact congrArg some e), (fun h => ⟨a, rfl, by injection h⟩)⟩
def SqM.own (m : SqM) (i : Nat) : Prop := i = m.q ∨ blkOf m.FA i ∨ blkOf m.EA i
def SqM.held (m : SqM) (i : Nat) : Prop := m.own i ∨ m.imm i
def sqC (o : SpO) (m : SqM) (V : SqV RgV) : Array Value :=
  #[.bool true, .slice o.A1 o.n1 o.c1, .slice o.A2 o.n2 o.c2, .slice o.A3 o.n3 o.c3, .slice o.A4 o.n4 o.c4, .slice m.FA V.L.length m.fc, .int .i64 (V.p : Int), .slice m.EA V.E.length m.ec, .int .i64 (V.d : Int)]
def edC (x : EdV RgV × Value × Value) : List Value := [x.2.1, x.2.2, .int .i64 (x.1.b : Int), .int .i64 (x.1.a : Int)]
abbrev ptr (b : Nat) : Value := .pointer (some ⟨b, 0, none⟩)
def EdF (w : World) (imm : Nat → Prop) (q : Nat) : Ed RgV → Value → Value → Prop
  | .ins p r, u, v => ∃ bq ba br, imm bq ∧ imm ba ∧ imm br ∧ v = .func (.func 45) #[] #[ptr bq, ptr ba, ptr br] ∧ u = .func (.func 47) #[] #[ptr bq, ptr ba] ∧
      Blk w bq 24 #[ptr q] ∧ Blk w ba 3 #[.int .i64 (p : Int)] ∧ Blk w br 45 #[.slice r.A r.n r.c, .slice r.B r.m r.d] ∧ Dep w imm fun w' => RgM w' r
  | .rep p r o, u, v => ∃ bq ba br bo, imm bq ∧ imm ba ∧ imm br ∧ imm bo ∧ v = .func (.func 80) #[] #[ptr br, ptr bq, ptr ba] ∧ u = .func (.func 81) #[] #[ptr bo, ptr bq, ptr ba] ∧
      Blk w bq 24 #[ptr q] ∧ Blk w ba 3 #[.int .i64 (p : Int)] ∧ Blk w br 45 #[.slice r.A r.n r.c, .slice r.B r.m r.d] ∧ Blk w bo 45 #[.slice o.A o.n o.c, .slice o.B o.m o.d] ∧ (Dep w imm fun w' => RgM w' r) ∧ Dep w imm fun w' => RgM w' o
  | .del p o, u, v => ∃ bq ba bo, imm bq ∧ imm ba ∧ imm bo ∧ v = .func (.func 65) #[] #[ptr bq, ptr ba] ∧ u = .func (.func 66) #[] #[ptr bq, ptr ba, ptr bo] ∧
      Blk w bq 24 #[ptr q] ∧ Blk w ba 3 #[.int .i64 (p : Int)] ∧ Blk w bo 45 #[.slice o.A o.n o.c, .slice o.B o.m o.d] ∧ Dep w imm fun w' => RgM w' o
theorem EdF.go {w w' : World} {imm p : Nat → Prop} {q : Nat} {e : Ed RgV} {u v : Value} (h : EdF w imm q e u v) (hm : MvP p w w') (hp : ∀ i, imm i → ¬ p i) : EdF w' imm q e u v := by
  cases e with
  | ins a r =>
    obtain ⟨bq, ba, br, i1, i2, i3, e1, e2, b1, b2, b3, d⟩ := h; exact ⟨bq, ba, br, i1, i2, i3, e1, e2, hm.blk b1 (hp _ i1), hm.blk b2 (hp _ i2), hm.blk b3 (hp _ i3), d.go hm hp⟩
  | rep a r o =>
    obtain ⟨bq, ba, br, bo, i1, i2, i3, i4, e1, e2, b1, b2, b3, b4, d1, d2⟩ := h; exact ⟨bq, ba, br, bo, i1, i2, i3, i4, e1, e2, hm.blk b1 (hp _ i1), hm.blk b2 (hp _ i2), hm.blk b3 (hp _ i3), hm.blk b4 (hp _ i4), d1.go hm hp, d2.go hm hp⟩
  | del a o =>
    obtain ⟨bq, ba, bo, i1, i2, i3, e1, e2, b1, b2, b3, d⟩ := h; exact ⟨bq, ba, bo, i1, i2, i3, e1, e2, hm.blk b1 (hp _ i1), hm.blk b2 (hp _ i2), hm.blk b3 (hp _ i3), d.go hm hp⟩
theorem EdF.more {w : World} {imm imm' : Nat → Prop} {q : Nat} {e : Ed RgV} {u v : Value} (h : EdF w imm q e u v) (hi : ∀ i, imm i → imm' i) : EdF w imm' q e u v := by
  cases e with
  | ins a r =>
    obtain ⟨bq, ba, br, i1, i2, i3, e1, e2, b1, b2, b3, d⟩ := h; exact ⟨bq, ba, br, hi _ i1, hi _ i2, hi _ i3, e1, e2, b1, b2, b3, d.more hi⟩
  | rep a r o =>
    obtain ⟨bq, ba, br, bo, i1, i2, i3, i4, e1, e2, b1, b2, b3, b4, d1, d2⟩ := h; exact ⟨bq, ba, br, bo, hi _ i1, hi _ i2, hi _ i3, hi _ i4, e1, e2, b1, b2, b3, b4, d1.more hi, d2.more hi⟩
  | del a o =>
    obtain ⟨bq, ba, bo, i1, i2, i3, e1, e2, b1, b2, b3, d⟩ := h; exact ⟨bq, ba, bo, hi _ i1, hi _ i2, hi _ i3, e1, e2, b1, b2, b3, d.more hi⟩
structure SQ (w : World) (base : Nat) (o : SpO) (m : SqM) (V : SqV RgV) : Prop where
  blk : Blk w m.q 96 (sqC o m V)
  qb : base ≤ m.q
  fr : w.ownsRow base 45 2 (.slice m.FA V.L.length m.fc) V.L.length (V.L.flatMap RgV.cells)
  ed : w.ownsRow base 112 4 (.slice m.EA V.E.length m.ec) V.E.length ((V.E.zip m.VE).flatMap edC)
  ni : ∀ i, m.own i → ¬ m.imm i
  lt : ∀ i, m.imm i → i < w.heap.size
  sp : Dep w m.imm fun w' => SpM w' o
  rg : ∀ r ∈ V.L, Dep w m.imm fun w' => RgM w' r
  vn : m.VE.length = V.E.length
  ev : ∀ (i : Nat) (x : EdV RgV) (y : Value × Value), V.E[i]? = some x → m.VE[i]? = some y → EdF w m.imm m.q x.e y.1 y.2
theorem SQ.keep {w w' : World} {base : Nat} {o : SpO} {m : SqM} {V : SqV RgV} (h : SQ w base o m V) {p : Nat → Prop} (hm : MvP p w w') (hp : ∀ i, m.held i → ¬ p i) : SQ w' base o m V := by
  have hi : ∀ i, m.imm i → ¬ p i := fun i e => hp i (.inr e)
  exact ⟨hm.blk h.blk (hp _ (.inl (.inl rfl))), h.qb, hm.own h.fr (fun k e => hp k (.inl (.inr (.inl (blkOf_own.2 e))))), hm.own h.ed (fun k e => hp k (.inl (.inr (.inr (blkOf_own.2 e))))), h.ni,
    fun i e => Nat.lt_of_lt_of_le (h.lt i e) hm.size, h.sp.go hm hi, fun r hr => (h.rg r hr).go hm hi, h.vn, fun i x y h1 h2 => (h.ev i x y h1 h2).go hm hi⟩
theorem SQ.below {w w' : World} {base : Nat} {o : SpO} {m : SqM} {V : SqV RgV} (h : SQ w base o m V) (hb : Below w.heap.size w w') : SQ w' base o m V := h.keep (MvP.of_below hb) (fun _ _ e => e)
theorem SQ.more {w : World} {base : Nat} {o : SpO} {m : SqM} {V : SqV RgV} (h : SQ w base o m V) {imm' : Nat → Prop} (hi : ∀ i, m.imm i → imm' i) (hn : ∀ i, m.own i → ¬ imm' i) (hl : ∀ i, imm' i → i < w.heap.size) : SQ w base o { m with imm := imm' } V :=
  ⟨h.blk, h.qb, h.fr, h.ed, hn, hl, h.sp.more hi, fun r hr => (h.rg r hr).more hi, h.vn, fun i x y h1 h2 => (h.ev i x y h1 h2).more hi⟩
structure Foot (m m' : SqM) (w w' : World) : Prop where
  mv : MvP m.own w w'
  held : ∀ i, m'.held i → m.held i ∨ w.heap.size ≤ i
  own : ∀ i, m'.own i → m.own i ∨ w.heap.size ≤ i
  q : m'.q = m.q
theorem Foot.refl (m : SqM) (w : World) : Foot m m w w := ⟨MvP.refl _ _, fun _ h => .inl h, fun _ h => .inl h, rfl⟩
theorem Foot.trans {m m1 m2 : SqM} {w w1 w2 : World} (h : Foot m m1 w w1) (k : Foot m1 m2 w1 w2) : Foot m m2 w w2 :=
  ⟨h.mv.trans2 k.mv (fun i hi e => (h.own i e).resolve_right (by omega)), fun i e => (k.held i e).elim (h.held i) (fun e => .inr (Nat.le_trans h.mv.size e)), fun i e => (k.own i e).elim (h.own i) (fun e => .inr (Nat.le_trans h.mv.size e)), k.q.trans h.q⟩
theorem Foot.of_below {m : SqM} {w w' : World} (h : Below w.heap.size w w') : Foot m m w w' := ⟨(MvP.of_below h).mono fun _ e => e.elim, fun _ h => .inl h, fun _ h => .inl h, rfl⟩
theorem wp_store_celm {P : Program} {op : Oper} {a : Act} {w : World} {K : Act → World → Prop} {Q : Exit → Act → World → Prop} (ty : TypeId) (x y : Operand) (ho : op.op = .store ty x y)
    (g o : Nat) (v : Value) (hx : a.eval x = .pointer (some ⟨g, o, none⟩)) (hy : a.eval y = v)
    (t : TypeId) (cs cs' : Array Value) (hB : Blk w g t cs) (hn : o < cs.size) (hp : cs.setIfInBounds o v = cs') (hi : (P.info? ty).map (·.size) = some 1) (hv : v.cells = #[v]) (hv1 : v.oneCell' = true)
    (h : ∀ w', Mv g w w' → w'.heap.size = w.heap.size → Blk w' g t cs' → K (a.put op.dst undef) w') : op.wp P a w K Q := by
  have ht := hB.there o 1 (by omega)
  have hrun : (storeVar ty ⟨g, o, none⟩ v).run P w = .ok () (w.setCells g o [v]) := by
    have := run_storeCells_cells (P := P) g o [v] 0 w (fun j hj => by simpa using (ht j (by simpa using hj)).1) (fun j hj => by simpa using (ht j (by simpa using hj)).2)
      (fun u hu => by simp at hu; subst hu; exact hv1)
    cases hq : P.info? ty with
    | none => simp [hq] at hi
    | some i =>
      have hs : i.size = 1 := (by simpa [hq] using hi); simp only [Nat.add_zero] at this; simp [storeVar, sizeOf, typeInfo, hq, hv, hs, this]
  unfold Oper.wp execOp; simp only [ho, hx, hy, Instr.storeAt, Instr.sureAddr, Sem.run_bind, Sem.run_pure, Result.andThen_ok, hrun]; refine h _ (Mv.setCells _ _ _ _) (setCells_size _ _ _ _) ?_; rw [← hp]; exact Blk.setCells (w := w) [v] o _ _ hB
section
variable {P : Program} {ops : Array Oper} {Q : Exit → Act → World → Prop} {md : Region.Mode} {S : World → Prop} {L : Nat}
def wpAnyE (P : Program) (md : Region.Mode) (ops : Array Oper) (Q : Exit → Act → World → Prop) (S : World → Prop) (L : Nat) : Nat → Array Bool → Act → World → Prop
  | 0, l, a, w => Region.ready md ops l = [] ∧ Q .normal a w
  | n+1, l, a, w => (Region.ready md ops l = [] → Q .normal a w) ∧ ∀ i ∈ Region.ready md ops l, wpOp P ops Q i (fun a' w' => (i ≠ L → S w') ∧ wpAnyE P md ops Q S L n (l.setIfInBounds i true) a' w') a w
theorem wpAny_of_E : ∀ (n : Nat) (l : Array Bool) (a : Act) (w : World), wpAnyE P md ops Q S L n l a w → wpAny P md ops Q n l a w
  | 0, _, _, _, h => h
  | n+1, _, _, _, h => ⟨h.1, fun i hi => wpOp_mono (fun a' w' h' => wpAny_of_E n _ a' w' h'.2) (h.2 i hi)⟩
def waitsB (md : Region.Mode) (ops : Array Oper) (L i : Nat) : Bool := match ops[L]? with | some o => o.after.any fun e => Region.binds md e && e.on == i | none => true
theorem waits_spec {J : Nat} {l : Array Bool} (h : waitsB md ops L J = true) (hJ : l.getD J true = false) : L ∉ Region.ready md ops l := fun hL => by
  obtain ⟨_, o, ho, hall⟩ := mem_ready.1 hL; unfold waitsB at h; rw [ho] at h; obtain ⟨e, he, h2⟩ := Array.any_eq_true'.1 h; rw [Bool.and_eq_true] at h2; have h3 : e.on = J := (by simpa using h2.2); have h4 := hall e he h2.1; rw [h3] at h4; rcases Nat.lt_or_ge J l.size with h' | h'
  · simp [h'] at hJ h4; rw [hJ] at h4; cases h4
  · simp [Array.getElem?_eq_none h'] at h4
def chainB (md : Region.Mode) (ops : Array Oper) (l : Array Bool) (L i : Nat) : Bool := (List.range ops.size).any fun J => !(l.getD J true) && waitsB md ops L J && (J == i || waitsB md ops J i)
theorem wpAnyE_first {i : Nat} {oi : Oper} {v : Value} (hi : ops[i]? = some oi) (hsel : ∀ (j : Nat) (o : Oper) cs b, ops[j]? = some o → o.op ≠ .select cs b)
    (hQ : ∀ c a w, Q (.panic c) (a.put oi.dst v) w → Q (.panic c) a w) {J : Nat} (hL : waitsB md ops L J = true) (hJi : J = i ∨ waitsB md ops J i = true) :
    ∀ (n : Nat) (l : Array Bool) (a : Act) (w : World), l.getD J true = false →
      (∀ j oj, ops[j]? = some oj → j ≠ i → l.getD j true = false → (∀ e ∈ oj.after, Region.binds md e = true → e.on ≠ i) → oi.apart ops oj = true) →
      i ∈ Region.ready md ops l → YieldsIf P ops S oi v a → S w →
      wpAnyE P md ops Q S L n (l.setIfInBounds i true) (a.put oi.dst v) w → wpAnyE P md ops Q S L (n + 1) l a w
  | 0, l, a, w, _, _, hr, hy, hS, H => ⟨fun h => (by rw [h] at hr; cases hr), fun j hj => by
    by_cases hji : j = i
    · subst hji; exact hy.wpOp hi hS ⟨fun _ => hS, H⟩
    · have := ready_mono hj hji; rw [H.1] at this
      cases this⟩
  | n+1, l, a, w, hun, hfree, hr, hy, hS, H => ⟨fun h => (by rw [h] at hr; cases hr), fun j hj => by
    by_cases hji : j = i
    · subst hji; exact hy.wpOp hi hS ⟨fun _ => hS, H⟩
    · have hjL : j ≠ L := fun e => waits_spec hL hun (e ▸ hj)
      have hjJ : j ≠ J := fun e => hJi.elim (fun e2 => hji (e.trans e2)) fun h2 => waits_spec h2 (mem_ready.1 hr).1 (e ▸ hj)
      obtain ⟨hjun, oj, hoj, hall⟩ := mem_ready.1 hj
      have hnot : ∀ e ∈ oj.after, Region.binds md e = true → e.on ≠ i := fun e he hb heq => by
        have h1 := hall e he hb; have h0 := (mem_ready.1 hr).1; rw [heq] at h1; rcases Nat.lt_or_ge i l.size with h' | h'
        · simp [h'] at h0 h1; rw [h0] at h1; cases h1
        · simp [Array.getElem?_eq_none h'] at h1
      refine wpOp_mono (fun a' w' h3 => ⟨h3.2.1, wpAnyE_first hi hsel hQ hL hJi n (l.setIfInBounds j true) a' w' (by rw [getD_set_ne true hjJ]; exact hun) (fun k ok hk hki hun2 hno => ?_) (ready_mono hr (Ne.symm hji)) h3.1 (h3.2.1 hjL) ?_⟩)
        (wpOp_putIf hoj (hfree j oj hoj hji hjun hnot) (fun cs b => hsel i oi cs b hi) (fun cs b => hsel j oj cs b hoj) hQ hy (H.2 j (ready_mono hj hji)))
      · refine hfree k ok hk hki ?_ hno
        by_cases hjk : j = k
        · subst hjk; exact hjun
        · rw [getD_set_ne true hjk] at hun2; exact hun2
      · rw [Array.setIfInBounds_comm _ _ hji]
        exact h3.2.2⟩
theorem wpAnyE_take {i : Nat} {oi : Oper} {v : Value} {n : Nat} {l : Array Bool} {a : Act} {w : World} (hi : ops[i]? = some oi)
    (hs : Region.noSelect ops = true) (hf : Region.free md ops l i = true) (hr : (Region.ready md ops l).contains i = true) (hL : chainB md ops l L i = true)
    (hQ : ∀ c a w, Q (.panic c) (a.put oi.dst v) w → Q (.panic c) a w) (hy : YieldsIf P ops S oi v a) (hS : S w)
    (h : wpAnyE P md ops Q S L n (l.setIfInBounds i true) (a.put oi.dst v) w) : wpAnyE P md ops Q S L (n + 1) l a w :=
  by
  obtain ⟨J, _, hJ⟩ := List.any_eq_true.1 hL; rw [Bool.and_eq_true, Bool.and_eq_true, Bool.or_eq_true] at hJ; exact wpAnyE_first hi (Region.noSelect_spec hs) hQ hJ.1.2 (hJ.2.imp (fun e => by simpa using e) id) n l a w (by simpa using hJ.1.1) (Region.free_spec hi hf) (by simpa using hr) hy hS h
theorem wpAnyE_pure (i : Nat) {oi : Oper} {v : Value} {n : Nat} {l : Array Bool} {a : Act} {w : World} (hi0 : ops.toList[i]? = some oi)
    (hs : Region.noSelect ops = true) (hf : Region.free md ops l i = true) (hr : (Region.ready md ops l).contains i = true) (hL : chainB md ops l L i = true)
    (hQ : ∀ c a w, Q (.panic c) (a.put oi.dst v) w → Q (.panic c) a w) (hg : oi.guard = none) (hy : ∀ w, (execOp a.eval oi).run P w = .ok (.value v) w) (hS : S w)
    (h : wpAnyE P md ops Q S L n (l.setIfInBounds i true) (a.put oi.dst v) w) : wpAnyE P md ops Q S L (n + 1) l a w :=
  have hi : ops[i]? = some oi := (by rw [← Array.getElem?_toList]; exact hi0)
  wpAnyE_take hi hs hf hr hL hQ (.inl ⟨by simp [Region.wanted, hg], fun w _ => hy w⟩) hS h
theorem wpAnyE_load (i : Nat) {oi : Oper} {n : Nat} {l : Array Bool} {a : Act} {w : World} (ty : TypeId) (x : Operand) (hi0 : ops.toList[i]? = some oi) (ho : oi.op = .load ty x) (hg : oi.guard = none)
    (g o : Nat) (hx : a.eval x = .pointer (some ⟨g, o, none⟩)) (vs : Array Value) (d : TypeDesc) (hR : ∀ w, S w → w.rangeAt g o vs.toList) (hu : P.underlying ty = some d) (hd : d.isRow = true) (hz : (P.info? ty).map (·.size) = some vs.size)
    (hs : Region.noSelect ops = true) (hf : Region.free md ops l i = true) (hr : (Region.ready md ops l).contains i = true) (hL : chainB md ops l L i = true)
    (hQ : ∀ c a w, Q (.panic c) (a.put oi.dst (.agg vs)) w → Q (.panic c) a w) (hS : S w)
    (h : wpAnyE P md ops Q S L n (l.setIfInBounds i true) (a.put oi.dst (.agg vs)) w) : wpAnyE P md ops Q S L (n + 1) l a w := by
  have hi : ops[i]? = some oi := (by rw [← Array.getElem?_toList]; exact hi0); have hy := yieldsIf_load_mid (P := P) (ops := ops) (S := S) (op := oi) (a := a) (by simp [Region.wanted, hg]) ty x ho g o hx vs.toList d hR hu hd (by rw [hz]; simp); rw [Array.toArray_toList] at hy; exact wpAnyE_take hi hs hf hr hL hQ hy hS h
theorem wpAnyE_cell (i : Nat) {oi : Oper} {n : Nat} {l : Array Bool} {a : Act} {w : World} {v : Value} (hi0 : ops.toList[i]? = some oi) (hg : oi.guard = none)
    (hy : ∀ w, S w → (execOp a.eval oi).run P w = .ok (.value v) w)
    (hs : Region.noSelect ops = true) (hf : Region.free md ops l i = true) (hr : (Region.ready md ops l).contains i = true) (hL : chainB md ops l L i = true)
    (hQ : ∀ c a w, Q (.panic c) (a.put oi.dst v) w → Q (.panic c) a w) (hS : S w)
    (h : wpAnyE P md ops Q S L n (l.setIfInBounds i true) (a.put oi.dst v) w) : wpAnyE P md ops Q S L (n + 1) l a w :=
  have hi : ops[i]? = some oi := (by rw [← Array.getElem?_toList]; exact hi0)
  wpAnyE_take hi hs hf hr hL hQ (.inl ⟨by simp [Region.wanted, hg], hy⟩) hS h
theorem wpAnyE_one (i : Nat) {oi : Oper} {n : Nat} {l : Array Bool} {a : Act} {w : World} (hi0 : ops.toList[i]? = some oi) (hr : Region.ready md ops l = [i]) (hg : oi.guard = none)
    (h : ∀ K' : Act → World → Prop, Shut (∀ a w, (i ≠ L → S w) → ((i ≠ L → S w) → wpAnyE P md ops Q S L n (l.setIfInBounds i true) a w) → K' a w) → Oper.wp P oi a w K' Q) : wpAnyE P md ops Q S L (n + 1) l a w := by
  have hi : ops[i]? = some oi := (by rw [← Array.getElem?_toList]; exact hi0); have hw : Region.wanted oi (yielded ops a.tmps) = true := (by simp [Region.wanted, hg]); refine ⟨fun h0 => (by rw [hr] at h0; cases h0), fun j hj => ?_⟩; rw [hr] at hj; obtain rfl := List.mem_singleton.1 hj; unfold Go.wpOp; simp only [hi, hw, if_true]; exact .inl (h _ fun a w h1 h2 => ⟨h1, h2 h1⟩)
theorem wpAnyE_done {l : Array Bool} {a : Act} {w : World} (hr : Region.ready md ops l = []) (h : Q .normal a w) : ∀ n, wpAnyE P md ops Q S L n l a w
  | 0 => ⟨hr, h⟩
  | _ + 1 => ⟨fun _ => h, by rw [hr]; simp⟩
theorem wp_region_E (L : Nat) {id : Nat} {a : Act} {w : World} (hm : P.follows .mixedOrders = true) (hS : S w.drew)
    (h : S w.drew → wpAnyE P .any ops Q S L ops.size (Array.replicate ops.size false) a w.drew) : (Code.region id ops true).wp P Q a w :=
  wp_region_any hm (wpAny_of_E _ _ _ _ (h hS))
end
theorem own_ne {w : World} {base size n k g : Nat} {e t : TypeId} {v : Value} {xs : List Value} {cs : Array Value} (h : w.ownsRow base e size v n xs) (hk : v.ownBlock = some k) (hB : Blk w g t cs) (ht : e ≠ t) : k ≠ g := by
  rintro rfl; rcases h.2 with ⟨rfl, _⟩ | ⟨b, cap, cur, rfl, _, hh, _⟩
  · cases hk
  · injection hk with hk
    have hk : b = k := hk; subst hk; have hB2 : w.heap[b]? = some (.cells cs t) := hB; rw [hh] at hB2; injection hB2 with hB2
    injection hB2 with _ e2
    exact ht e2
theorem own_nee {w : World} {base size n size' n' k : Nat} {e e' : TypeId} {v v' : Value} {xs xs' : List Value} (h : w.ownsRow base e size v n xs) (h' : w.ownsRow base e' size' v' n' xs') (hk : v.ownBlock = some k) (hk' : v'.ownBlock = some k) (ht : e ≠ e') : False := by
  rcases h'.2 with ⟨rfl, _⟩ | ⟨b, cap, cur, rfl, _, hh, _⟩
  · cases hk'
  · injection hk' with hk'
    have hk' : b = k := hk'; subst hk'; exact own_ne h hk (show Blk w b e' cur from hh) ht rfl
theorem own_lt2 {w : World} {base size n k : Nat} {e : TypeId} {v : Value} {xs : List Value} (h : w.ownsRow base e size v n xs) (hk : v.ownBlock = some k) : base ≤ k ∧ k < w.heap.size := by
  rcases h.2 with ⟨rfl, _⟩ | ⟨b, cap, cur, rfl, hb, hh, _⟩
  · cases hk
  · injection hk with hk
    have hk : b = k := hk; subst hk; exact ⟨hb, Blk.lt (t := e) (cs := cur) hh⟩
theorem fm_take {α : Type} (f : α → List Value) (sz : Nat) (hf : ∀ x, (f x).length = sz) : ∀ (L : List α) (p : Nat), (L.flatMap f).take (p * sz) = (L.take p).flatMap f
  | _, 0 => by simp
  | [], p + 1 => by simp
  | x :: L, p + 1 => by
    rw [List.flatMap_cons, List.take_succ_cons, List.flatMap_cons, List.take_append, List.take_of_length_le (by rw [hf, Nat.succ_mul]; omega), hf, show (p + 1) * sz - sz = p * sz by rw [Nat.succ_mul]; omega, fm_take f sz hf L p]
theorem fm_drop {α : Type} (f : α → List Value) (sz : Nat) (hf : ∀ x, (f x).length = sz) : ∀ (L : List α) (p : Nat), (L.flatMap f).drop (p * sz) = (L.drop p).flatMap f
  | _, 0 => by simp
  | [], p + 1 => by simp
  | x :: L, p + 1 => by
    rw [List.flatMap_cons, List.drop_succ_cons, List.drop_append, List.drop_eq_nil_of_le (by rw [hf, Nat.succ_mul]; omega), hf, show (p + 1) * sz - sz = p * sz by rw [Nat.succ_mul]; omega, List.nil_append, fm_drop f sz hf L p]
theorem ins_cells (L : List RgV) (p : Nat) (r : RgV) : (insL L p r).flatMap RgV.cells = (L.flatMap RgV.cells).take (p * 2) ++ [.slice r.A r.n r.c, .slice r.B r.m r.d] ++ (L.flatMap RgV.cells).drop (p * 2) := by
  rw [fm_take RgV.cells 2 (fun _ => rfl), fm_drop RgV.cells 2 (fun _ => rfl)]; unfold insL; rw [List.flatMap_append, List.flatMap_cons, ← List.append_assoc]; rfl
theorem del_cells (L : List RgV) (p : Nat) : (delL L p).flatMap RgV.cells = (L.flatMap RgV.cells).take (p * 2) ++ (L.flatMap RgV.cells).drop ((p + 1) * 2) := by
  rw [fm_take RgV.cells 2 (fun _ => rfl), fm_drop RgV.cells 2 (fun _ => rfl)]; unfold delL; rw [List.flatMap_append]
theorem one_cells (L : List RgV) : ∀ u ∈ L.flatMap RgV.cells, u.oneCell' = true := fun u hu => by
  obtain ⟨r, _, h⟩ := List.mem_flatMap.1 hu; rcases List.mem_cons.1 h with rfl | h
  · rfl
  · rw [List.mem_singleton.1 h]; rfl
theorem SQ.frames {w w' : World} {base : Nat} {o : SpO} {m : SqM} {V : SqV RgV} (h : SQ w base o m V) {FA : Option Addr} {fc : Nat} {L : List RgV}
    (hb : Blk w' m.q 96 (sqC o { m with FA := FA, fc := fc } { V with L := L })) (ho : w'.ownsRow base 45 2 (.slice FA L.length fc) L.length (L.flatMap RgV.cells))
    (hm : MvP (fun i => i = m.q ∨ blkOf m.FA i) w w') (hat : ∀ i, blkOf FA i → blkOf m.FA i ∨ w.heap.size ≤ i) (hr : ∀ r ∈ L, Dep w m.imm fun w' => RgM w' r) :
    SQ w' base o { m with FA := FA, fc := fc } { V with L := L } ∧ Foot m { m with FA := FA, fc := fc } w w' := by
  have hni : ∀ i, m.imm i → ¬ (i = m.q ∨ blkOf m.FA i) := fun i hi e => h.ni i (e.elim .inl fun e => .inr (.inl e)) hi
  have hed : ∀ k, (Value.slice m.EA V.E.length m.ec).ownBlock = some k → ¬ (k = m.q ∨ blkOf m.FA k) := fun k hk e => by
    rcases e with e | e
    · exact own_ne h.ed hk h.blk (by decide) e
    · exact own_nee h.ed h.fr hk (blkOf_own.1 e) (by decide)
  have hown : ∀ i, SqM.own { m with FA := FA, fc := fc } i → m.own i ∨ w.heap.size ≤ i := fun i e => by
    rcases e with e | e | e
    · exact .inl (.inl e)
    · exact (hat i e).imp (fun e => .inr (.inl e)) id
    · exact .inl (.inr (.inr e))
  refine ⟨⟨hb, h.qb, ho, hm.own h.ed hed, fun i e hi => ?_, fun i e => Nat.lt_of_lt_of_le (h.lt i e) hm.size, h.sp.go hm hni, fun r hr' => (hr r hr').go hm hni, h.vn, fun i x y h1 h2 => (h.ev i x y h1 h2).go hm hni⟩,
    ⟨hm.mono fun i e => e.elim .inl fun e => .inr (.inl e), fun i e => ?_, hown, rfl⟩⟩
  · rcases hown i e with e | e
    · exact h.ni i e hi
    · have := h.lt i hi; omega
  · rcases e with e | e
    · exact (hown i e).imp .inl id
    · exact .inl (.inr e)
theorem SQ.cell {w : World} {base : Nat} {o : SpO} {m : SqM} {V : SqV RgV} (h : SQ w base o m V) (j : Nat) {v : Value} (hv : (sqC o m V)[j]? = some v) : w.cell? ⟨m.q, j, none⟩ = some v := (h.blk.cell j).trans hv
theorem isq_any (q : Nat) (w : World) (h : w.cell? ⟨q, 0, none⟩ = some (.bool true)) : Calls Tryz.prog 41 #[ptr q] w fun e w' => e = .returned (.bool false) ∧ w' = w := by
  have HC : Sl _ := ⟨h⟩; go_enter Tryz.func41, Tryz.ntmps41; go_wp2_with fail; go_ret; exact ⟨rfl, rfl⟩
section
variable {P : Program} {ops : Array Oper} {Q : Exit → Act → World → Prop} {md : Region.Mode} {S : World → Prop} {L : Nat}
theorem eP (i : Nat) {oi : Oper} {v : Value} {n : Nat} {l : Array Bool} {a : Act} {w : World} (hi0 : ops.toList[i]? = some oi) (hg : oi.guard = none) (hy : ∀ w, (execOp a.eval oi).run P w = .ok (.value v) w) (h : wpAnyE P md ops Q S L n (l.setIfInBounds i true) (a.put oi.dst v) w) (hs : Region.noSelect ops = true := by kernel_rfl) (hf : Region.free md ops l i = true := by kernel_rfl) (hr : (Region.ready md ops l).contains i = true := by kernel_rfl) (hL : chainB md ops l L i = true := by kernel_rfl) (hQ : ∀ c a w, Q (.panic c) (a.put oi.dst v) w → Q (.panic c) a w := by exact fun _ _ _ h => h) (hS : S w := by assumption) : wpAnyE P md ops Q S L (n + 1) l a w := wpAnyE_pure i hi0 hs hf hr hL hQ hg hy hS h
theorem eS (i : Nat) {oi : Oper} {v : Value} {n : Nat} {l : Array Bool} {a : Act} {w : World} (hi0 : ops.toList[i]? = some oi) (hg : oi.guard = none) (h : wpAnyE P md ops Q S L n (l.setIfInBounds i true) (a.put oi.dst v) w) (hs : Region.noSelect ops = true := by kernel_rfl) (hf : Region.free md ops l i = true := by kernel_rfl) (hr : (Region.ready md ops l).contains i = true := by kernel_rfl) (hL : chainB md ops l L i = true := by kernel_rfl) (hQ : ∀ c a w, Q (.panic c) (a.put oi.dst v) w → Q (.panic c) a w := by exact fun _ _ _ h => h) (hS : S w := by assumption) (hy : ∀ w, (execOp a.eval oi).run P w = .ok (.value v) w := by intro _; go_simp) : wpAnyE P md ops Q S L (n + 1) l a w := wpAnyE_pure i hi0 hs hf hr hL hQ hg hy hS h
theorem eM (i : Nat) {oi : Oper} {v : Value} {n : Nat} {l : Array Bool} {a : Act} {w : World} (hi0 : ops.toList[i]? = some oi) (hg : oi.guard = none) (h : wpAnyE P md ops Q S L n (l.setIfInBounds i true) (a.put oi.dst v) w) (hs : Region.noSelect ops = true := by kernel_rfl) (hf : Region.free md ops l i = true := by kernel_rfl) (hr : (Region.ready md ops l).contains i = true := by kernel_rfl) (hL : chainB md ops l L i = true := by kernel_rfl) (hQ : ∀ c a w, Q (.panic c) (a.put oi.dst v) w → Q (.panic c) a w := by exact fun _ _ _ h => h) (hS : S w := by assumption) (hy : ∀ w, (execOp a.eval oi).run P w = .ok (.value v) w := by intro _; rfl) : wpAnyE P md ops Q S L (n + 1) l a w := wpAnyE_pure i hi0 hs hf hr hL hQ hg hy hS h
theorem eC (i : Nat) {oi : Oper} {v : Value} {n : Nat} {l : Array Bool} {a : Act} {w : World} (hi0 : ops.toList[i]? = some oi) (hg : oi.guard = none) (hy : ∀ w, S w → (execOp a.eval oi).run P w = .ok (.value v) w) (h : wpAnyE P md ops Q S L n (l.setIfInBounds i true) (a.put oi.dst v) w) (hs : Region.noSelect ops = true := by kernel_rfl) (hf : Region.free md ops l i = true := by kernel_rfl) (hr : (Region.ready md ops l).contains i = true := by kernel_rfl) (hL : chainB md ops l L i = true := by kernel_rfl) (hQ : ∀ c a w, Q (.panic c) (a.put oi.dst v) w → Q (.panic c) a w := by exact fun _ _ _ h => h) (hS : S w := by assumption) : wpAnyE P md ops Q S L (n + 1) l a w := wpAnyE_cell i hi0 hg hy hs hf hr hL hQ hS h
theorem eL (i : Nat) {oi : Oper} {n : Nat} {l : Array Bool} {a : Act} {w : World} (ty : TypeId) (x : Operand) (hi0 : ops.toList[i]? = some oi) (ho : oi.op = .load ty x) (hg : oi.guard = none) (g o : Nat) (hx : a.eval x = .pointer (some ⟨g, o, none⟩)) (vs : Array Value) (d : TypeDesc) (hR : ∀ w, S w → w.rangeAt g o vs.toList) (hu : P.underlying ty = some d) (hd : d.isRow = true) (h : wpAnyE P md ops Q S L n (l.setIfInBounds i true) (a.put oi.dst (.agg vs)) w) (hz : (P.info? ty).map (·.size) = some vs.size := by kernel_rfl) (hs : Region.noSelect ops = true := by kernel_rfl) (hf : Region.free md ops l i = true := by kernel_rfl) (hr : (Region.ready md ops l).contains i = true := by kernel_rfl) (hL : chainB md ops l L i = true := by kernel_rfl) (hQ : ∀ c a w, Q (.panic c) (a.put oi.dst (.agg vs)) w → Q (.panic c) a w := by exact fun _ _ _ h => h) (hS : S w := by assumption) : wpAnyE P md ops Q S L (n + 1) l a w := wpAnyE_load i ty x hi0 ho hg g o hx vs d hR hu hd hz hs hf hr hL hQ hS h
theorem eO (i : Nat) {oi : Oper} {n : Nat} {l : Array Bool} {a : Act} {w : World} (hi0 : ops.toList[i]? = some oi) (hg : oi.guard = none) (h : ∀ K' : Act → World → Prop, Shut (∀ a w, (i ≠ L → S w) → ((i ≠ L → S w) → wpAnyE P md ops Q S L n (l.setIfInBounds i true) a w) → K' a w) → Oper.wp P oi a w K' Q) (hr : Region.ready md ops l = [i] := by kernel_rfl) : wpAnyE P md ops Q S L (n + 1) l a w := wpAnyE_one i hi0 hr hg h
end
theorem put_any (base : Nat) (o : SpO) (m : SqM) (V : SqV RgV) (p : Nat) (r : RgV) (w : World) (h : SQ w base o m V) (hp : p ≤ V.L.length) (hn : V.L.length ≤ 1000) (hr : Dep w m.imm fun w' => RgM w' r) :
    Calls Tryz.prog 46 #[ptr m.q, .int .i64 (p : Int), .agg #[.slice r.A r.n r.c, .slice r.B r.m r.d]] w fun e w' => e = .returned (.tuple #[]) ∧ ∃ FA fc, SQ w' base o { m with FA := FA, fc := fc } { V with L := insL V.L p r } ∧ Foot m { m with FA := FA, fc := fc } w w' := by
  have H : Sl _ := ⟨h⟩; have HR : Sl _ := ⟨hr⟩; have HP : Sl (p ≤ V.L.length ∧ V.L.length ≤ 1000) := ⟨⟨hp, hn⟩⟩; obtain ⟨q, hq⟩ : ∃ q, m.q = q := ⟨_, rfl⟩; rw [hq]; obtain ⟨n, hnn⟩ : ∃ n, V.L.length = n := ⟨_, rfl⟩; have HQ : Sl (m.q = q ∧ V.L.length = n) := ⟨⟨hq, hnn⟩⟩; clear h hr hp hn; go_enter Tryz.func46, Tryz.ntmps46
  go_upto_region 1 with ((with_reducible show wpList _ _ _ _ _ _); (refine wpList_box_new 5 rfl rfl 45 (.tmp 2) rfl #[.slice r.A r.n r.c, .slice r.B r.m r.d] rfl (fun _ => by kernel_rfl) ?_; rintro w1 g1 zg zm zs zb; have HB1 : Sl (Below w.heap.size w w1) := ⟨below_mv (Below.refl _ _) zm (Nat.le_refl _) (Nat.le_refl _)⟩; have HG1 : Sl (Blk w1 g1 45 #[.slice r.A r.n r.c, .slice r.B r.m r.d] ∧ g1 = w.heap.size ∧ w1.heap.size = g1 + 1) := ⟨⟨zb, zg, zs⟩⟩; clear zm zg zs zb))
  have H1 : Sl _ := ⟨H.out.below HB1.out⟩; have c5 : w1.cell? ⟨q, 5, none⟩ = some (.slice m.FA n m.fc) := (by rw [← hq, ← hnn]; exact H1.out.cell 5 rfl); have g0 : w1.cell? ⟨g1, 0, none⟩ = some (.slice r.A r.n r.c) := HG1.out.1.cell 0; have g2 : w1.cell? ⟨g1, 1, none⟩ = some (.slice r.B r.m r.d) := HG1.out.1.cell 1; clear hq hnn; go_wp2_with fail; clear c5 g0 g2; have HBd : Sl (Below w1.heap.size w1 w1.drew) := ⟨below_drewN (Below.refl _ _) 1⟩; have HQB : Sl (∀ W, Blk W q 96 (sqC o m V) → W.cell? ⟨q, 5, none⟩ = some (.slice m.FA n m.fc)) := ⟨fun W hW => by rw [← HQ.out.2]; exact hW.cell 5⟩; have hS0 : Blk w1.drew q 96 (sqC o m V) ∧ Blk w1.drew g1 45 #[.slice r.A r.n r.c, .slice r.B r.m r.d] := ⟨by rw [← HQ.out.1]; exact H1.out.blk, HG1.out.1⟩; have hm := hS0; refine wp_region_E (S := fun w' => Blk w' q 96 (sqC o m V) ∧ Blk w' g1 45 #[.slice r.A r.n r.c, .slice r.B r.m r.d]) 11 (by kernel_rfl) hm (fun hHeld => ?_); clear hm; refine eM 0 (v := ptr q) rfl rfl ?_; simp only [pS]; refine eM 1 (v := ptr q) rfl rfl ?_; simp only [pS]; refine eS 2 (v := ptr q) rfl rfl ?_; simp only [pS]; refine eS 3 (v := .pointer (some ⟨q, 5, none⟩)) rfl rfl ?_; simp only [pS]
  refine eC 4 (v := .slice m.FA n m.fc) rfl rfl (fun w' h => by
    have hc := HQB.out w' h.1
    go_simp) ?_
  simp only [pS]; refine eM 5 (v := .int .i64 (p : Int)) rfl rfl ?_; simp only [pS]; refine eL 6 45 (.tmp 5) rfl rfl rfl g1 (0) rfl #[.slice r.A r.n r.c, .slice r.B r.m r.d] _ (fun w' h => by have := World.rangeAt_of_block h.2 0 2; exact this) Tryz.underlying45 rfl ?_; simp only [pS]; refine eO 7 rfl rfl fun K hK => ?_; go_simp; have hS2 : Blk (w1.alloc (.cells #[.slice r.A r.n r.c, .slice r.B r.m r.d] 45)).drew q 96 (sqC o m V) ∧ Blk (w1.alloc (.cells #[.slice r.A r.n r.c, .slice r.B r.m r.d] 45)).drew g1 45 #[.slice r.A r.n r.c, .slice r.B r.m r.d] := ⟨(hS0.1 : Blk w1 q 96 (sqC o m V)).alloc _, (hS0.2 : Blk w1 g1 45 #[.slice r.A r.n r.c, .slice r.B r.m r.d]).alloc _⟩; have HB2 : Sl (Below w1.heap.size w1 (w1.alloc (.cells #[.slice r.A r.n r.c, .slice r.B r.m r.d] 45)).drew) := ⟨((Below.refl _ _).alloc (by simp) _).drew⟩; have HV : Sl (Blk (w1.alloc (.cells #[.slice r.A r.n r.c, .slice r.B r.m r.d] 45)).drew w1.heap.size 45 #[.slice r.A r.n r.c, .slice r.B r.m r.d]) := ⟨Blk.new w1 45 #[.slice r.A r.n r.c, .slice r.B r.m r.d]⟩; refine hK.out _ _ (fun _ => hS2) (fun hHeld => ?_); clear hK K hS0 HBd
  (try simp only [pS])
  generalize (w1.alloc (.cells #[.slice r.A r.n r.c, .slice r.B r.m r.d] 45)).drew = w2 at *
  have HOW : Sl (w2.ownsRow base 45 2 (.slice m.FA n m.fc) n (V.L.flatMap RgV.cells)) := ⟨by rw [← HQ.out.2]; exact (MvP.of_below HB2.out).own H1.out.fr (fun _ _ e => e)⟩
  have HNE : Sl (∀ k, (Value.slice m.FA n m.fc).ownBlock = some k → k < g1 ∧ k ≠ q) := ⟨fun k hk => by
    rw [← HQ.out.2] at hk
    exact ⟨by rw [HG1.out.2.1]; exact (own_lt2 H.out.fr hk).2, by rw [← HQ.out.1]; exact own_ne H1.out.fr hk H1.out.blk (by decide)⟩⟩
  have HBS : Sl (base ≤ w2.heap.size) := ⟨by have h1 := H1.out.qb; have h2 := H1.out.blk.lt; have h3 := HB2.out.size; omega⟩; generalize hvb : w1.heap.size = vb at *
  have HIN : Sl (Calls Tryz.prog 108 #[.slice m.FA n m.fc, .int .i64 (p : Int), .slice (some ⟨vb, 0, none⟩) 1 1] w2 fun en w' => InsR base m.FA n m.fc ((insL V.L p r).flatMap RgV.cells) w2 en w') := ⟨by
    rw [ins_cells]
    exact ins_any HOW.out (by have := HP.out; have := HQ.out; omega) (by have := HP.out; have := HQ.out; omega) HBS.out (one_cells _) HV.out (fun g hg => by have := (HNE.out g hg).1; have := HG1.out.2.2; omega) ⟨rfl, rfl⟩⟩
  refine eO 8 rfl rfl fun K hK => ?_; go_simp; go_at_call 108
  (with_reducible refine (HIN.out).mono ?_)
  rintro en w3 ⟨A', c', rfl, ho, hg, hat⟩
  have hS3 : Blk w3 q 96 (sqC o m V) ∧ Blk w3 g1 45 #[.slice r.A r.n r.c, .slice r.B r.m r.d] := by
    have hm := MvP.of_grown hg; refine ⟨hm.blk hS2.1 (fun e => (HNE.out q e).2 rfl), hm.blk hS2.2 (fun e => ?_)⟩; have := (HNE.out _ e).1; omega
  refine hK.out _ _ (fun _ => hS3) (fun hHeld => ?_); clear hK K
  (try simp only [pS])
  refine eS 9 (v := ptr q) rfl rfl ?_; simp only [pS]; refine eS 10 (v := .pointer (some ⟨q, 5, none⟩)) rfl rfl ?_; simp only [pS]; refine eO 11 rfl rfl fun K hK => ?_; refine wp_store_celm 36 (.tmp 16) (.tmp 14) rfl q 5 (.slice A' (n + 1) c') rfl rfl 96 _ _ hS3.1 (by simp [sqC]) rfl (by kernel_rfl) rfl rfl ?_; rintro w4 zm zs zb
  have HSQ : Sl (SQ w4 base o { m with FA := A', fc := c' } { V with L := insL V.L p r } ∧ Foot m { m with FA := A', fc := c' } w w4) := ⟨by
    have hl : (insL V.L p r).length = n + 1 := (by rw [insL_len HP.out.1, HQ.out.2]); have hq := HQ.out.1; subst hq; refine H.out.frames (FA := A') (fc := c') (L := insL V.L p r) ?_ ?_ ?_ ?_ ?_
    · have e : sqC o { m with FA := A', fc := c' } { V with L := insL V.L p r } = (sqC o m V).setIfInBounds 5 (.slice A' (n + 1) c') := (by rw [← hl]; rfl); rw [e]; exact zb
    · rw [hl]; exact (MvP.of_mv zm).own ho (fun k hk e => own_ne ho hk hS3.1 (by decide) e)
    · refine MvP.trans2 (b := w1) ((MvP.of_below HB1.out).mono fun _ e => e.elim) (MvP.trans2 (b := w2) ((MvP.of_below (by rw [← hvb] at HB2; exact HB2.out)).mono fun _ e => e.elim) (MvP.trans2 (b := w3) ((MvP.of_grown hg).mono fun i e => .inr (blkOf_own.2 e)) ((MvP.of_mv zm).mono fun i e => .inl e) fun i _ e => e) fun i _ e => e) fun i _ e => e
    · intro i hi; have hi2 : (Value.slice A' (n + 1) c').ownBlock = some i := blkOf_own.1 hi; rcases hat with e | ⟨g, e, hge⟩
      · exact .inl (blkOf_own.2 (e.symm.trans hi2))
      · rw [hi2] at e; injection e with e
        have h1 := HB1.out.size; have h2 := HB2.out.size; exact .inr (by omega)
    · intro x hx; unfold insL at hx; rcases List.mem_append.1 hx with hx | hx
      · exact H.out.rg x (List.mem_of_mem_take hx)
      · rcases List.mem_cons.1 hx with rfl | hx
        · exact HR.out
        · exact H.out.rg x (List.mem_of_mem_drop hx)⟩
  clear ho hg hat zm zs zb; refine hK.out _ _ (fun h => absurd rfl h) (fun hHeld => ?_); clear hK K
  (try simp only [pS])
  refine wpAnyE_done (by kernel_rfl) ?_ _; clear hHeld; go_wp2_with fail; go_end0; have hq := HQ.out.1; subst hq; exact ⟨rfl, _, _, HSQ.out⟩
theorem mem_delL {α : Type} {L : List α} {p : Nat} {x : α} (h : x ∈ delL L p) : x ∈ L := by
  unfold delL at h; rcases List.mem_append.1 h with h | h
  · exact List.mem_of_mem_take h
  · exact List.mem_of_mem_drop h
theorem qtake_any (base : Nat) (o : SpO) (m : SqM) (V : SqV RgV) (p : Nat) (w : World) (h : SQ w base o m V) (hp : p < V.L.length) (hn : V.L.length ≤ 1000) :
    Calls Tryz.prog 48 #[ptr m.q, .int .i64 (p : Int)] w fun e w' => e = .returned (.tuple #[]) ∧ ∃ FA fc, SQ w' base o { m with FA := FA, fc := fc } { V with L := delL V.L p } ∧ Foot m { m with FA := FA, fc := fc } w w' := by
  have H : Sl _ := ⟨h⟩; obtain ⟨q, hq⟩ : ∃ q, m.q = q := ⟨_, rfl⟩; rw [hq]; obtain ⟨n, hnn⟩ : ∃ n, V.L.length = n + 1 := ⟨V.L.length - 1, by omega⟩
  obtain ⟨g, hg⟩ : ∃ g, m.FA = some ⟨g, 0, none⟩ := by
    rcases h.fr.2 with ⟨h0, _⟩ | ⟨g', cap, cur, e1, _⟩
    · injection h0 with _ b _; omega
    · injection e1 with a _ _; exact ⟨g', a⟩
  have HQ : Sl (m.q = q ∧ V.L.length = n + 1 ∧ m.FA = some ⟨g, 0, none⟩) := ⟨⟨hq, hnn, hg⟩⟩; have HP : Sl (p < n + 1 ∧ n ≤ 1000) := ⟨⟨by omega, by omega⟩⟩; have hpI : IntKind.i64.wrap ((p : Int) + 1) = (p : Int) + 1 := (by rw [IntKind.wrap_i64]; omega); have c5 : w.cell? ⟨q, 5, none⟩ = some (.slice (some ⟨g, 0, none⟩) (n + 1) m.fc) := (by rw [← hq, ← hnn, ← hg]; exact h.cell 5 rfl)
  have hdel : Calls Tryz.prog 109 #[.slice (some ⟨g, 0, none⟩) (n + 1) m.fc, .int .i64 (p : Int), .int .i64 ((p : Int) + 1)] w fun en w' => en = .returned (.slice (some ⟨g, 0, none⟩) n m.fc) ∧
      w'.ownsRow base 45 2 (.slice (some ⟨g, 0, none⟩) n m.fc) n ((delL V.L p).flatMap RgV.cells) ∧ w.grownBy w' (some g) := by
    have ho := h.fr; rw [hg, hnn] at ho; rw [del_cells]; exact del_reg ho (by omega) (by omega) (one_cells _)
  have HDEL : Sl _ := ⟨hdel⟩; clear h hp hn hq hnn hg hdel; go_enter Tryz.func48, Tryz.ntmps48; go_wp2_with fail; refine HDEL.out.mono ?_; rintro e w3 ⟨rfl, ho, hg⟩
  have HB3 : Sl (Blk w3 q 96 (sqC o m V)) := ⟨by
    rw [← HQ.out.1]; refine (MvP.of_grown hg).blk H.out.blk (fun e => ?_)
    exact own_ne H.out.fr (blkOf_own.1 ⟨_, HQ.out.2.2, rfl⟩) H.out.blk (by decide) (by injection e)⟩
  have HO : Sl _ := ⟨And.intro ho hg⟩; clear ho hg c5; go_wp2_with ((with_reducible show wpList _ _ _ _ _ _); (refine wpList_store_cell rfl 36 (.tmp 14) (.tmp 12) rfl q 5 (.slice (some ⟨g, 0, none⟩) n m.fc) rfl rfl 96 _ _ HB3.out (by simp [sqC]) rfl (by kernel_rfl) rfl rfl ?_; rintro w4 zm zs zb zw; have HZ : Sl _ := ⟨And.intro zm zb⟩; clear zm zs zb zw)); go_end0; have hq := HQ.out.1; have hl : (delL V.L p).length = n := (by rw [delL_len (by have := HP.out; have := HQ.out; omega), HQ.out.2.1]; rfl); subst hq; refine ⟨rfl, some ⟨g, 0, none⟩, m.fc, H.out.frames (FA := some ⟨g, 0, none⟩) (fc := m.fc) (L := delL V.L p) ?_ ?_ ?_ ?_ ?_⟩
  · have e : sqC o { m with FA := some ⟨g, 0, none⟩, fc := m.fc } { V with L := delL V.L p } = (sqC o m V).setIfInBounds 5 (.slice (some ⟨g, 0, none⟩) n m.fc) := (by rw [← hl]; rfl); rw [e]; exact HZ.out.2
  · rw [hl]; exact (MvP.of_mv HZ.out.1).own HO.out.1 (fun k hk e => own_ne HO.out.1 hk HB3.out (by decide) e)
  · exact MvP.trans2 (b := w3) ((MvP.of_grown HO.out.2).mono fun i e => .inr ⟨_, HQ.out.2.2, by injection e⟩) ((MvP.of_mv HZ.out.1).mono fun i e => .inl e) fun i _ e => e
  · exact fun i hi => .inl (by rw [HQ.out.2.2]; exact hi)
  · exact fun x hx => H.out.rg x (mem_delL hx)
theorem clo_Insert1 (base : Nat) (o : SpO) (m : SqM) (V : SqV RgV) (p : Nat) (r : RgV) (bq ba br : Nat) (w : World) (h : SQ w base o m V) (hp : p ≤ V.L.length) (hn : V.L.length ≤ 1000) (hr : Dep w m.imm fun w' => RgM w' r)
    (b1 : Blk w bq 24 #[ptr m.q]) (b2 : Blk w ba 3 #[.int .i64 (p : Int)]) (b3 : Blk w br 45 #[.slice r.A r.n r.c, .slice r.B r.m r.d]) :
    Calls Tryz.prog 45 #[ptr bq, ptr ba, ptr br] w fun e w' => e = .returned (.tuple #[]) ∧ ∃ FA fc, SQ w' base o { m with FA := FA, fc := fc } { V with L := insL V.L p r } ∧ Foot m { m with FA := FA, fc := fc } w w' := by
  have HC : Sl _ := ⟨put_any base o m V p r w h hp hn hr⟩; have c1 : w.cell? ⟨bq, 0, none⟩ = some (ptr m.q) := b1.cell 0; have c2 : w.cell? ⟨ba, 0, none⟩ = some (.int .i64 (p : Int)) := b2.cell 0; have c3 : w.cell? ⟨br, 0, none⟩ = some (.slice r.A r.n r.c) := b3.cell 0; have c4 : w.cell? ⟨br, 1, none⟩ = some (.slice r.B r.m r.d) := b3.cell 1; clear h hp hn hr b1 b2 b3; go_enter Tryz.func45, Tryz.ntmps45; go_wp2_with fail; refine HC.out.mono ?_; rintro e w3 ⟨rfl, hx⟩; have HX : Sl _ := ⟨hx⟩; clear hx c1 c2 c3 c4; go_wp2_with fail; go_end0; exact ⟨rfl, HX.out⟩
theorem clo_Delete2 (base : Nat) (o : SpO) (m : SqM) (V : SqV RgV) (p : Nat) (r : RgV) (bq ba br : Nat) (w : World) (h : SQ w base o m V) (hp : p ≤ V.L.length) (hn : V.L.length ≤ 1000) (hr : Dep w m.imm fun w' => RgM w' r)
    (b1 : Blk w bq 24 #[ptr m.q]) (b2 : Blk w ba 3 #[.int .i64 (p : Int)]) (b3 : Blk w br 45 #[.slice r.A r.n r.c, .slice r.B r.m r.d]) :
    Calls Tryz.prog 66 #[ptr bq, ptr ba, ptr br] w fun e w' => e = .returned (.tuple #[]) ∧ ∃ FA fc, SQ w' base o { m with FA := FA, fc := fc } { V with L := insL V.L p r } ∧ Foot m { m with FA := FA, fc := fc } w w' := by
  have HC : Sl _ := ⟨put_any base o m V p r w h hp hn hr⟩; have c1 : w.cell? ⟨bq, 0, none⟩ = some (ptr m.q) := b1.cell 0; have c2 : w.cell? ⟨ba, 0, none⟩ = some (.int .i64 (p : Int)) := b2.cell 0; have c3 : w.cell? ⟨br, 0, none⟩ = some (.slice r.A r.n r.c) := b3.cell 0; have c4 : w.cell? ⟨br, 1, none⟩ = some (.slice r.B r.m r.d) := b3.cell 1; clear h hp hn hr b1 b2 b3; go_enter Tryz.func66, Tryz.ntmps66; go_wp2_with fail; refine HC.out.mono ?_; rintro e w3 ⟨rfl, hx⟩; have HX : Sl _ := ⟨hx⟩; clear hx c1 c2 c3 c4; go_wp2_with fail; go_end0; exact ⟨rfl, HX.out⟩
theorem clo_Insert2 (base : Nat) (o : SpO) (m : SqM) (V : SqV RgV) (p : Nat) (bq ba : Nat) (w : World) (h : SQ w base o m V) (hp : p < V.L.length) (hn : V.L.length ≤ 1000)
    (b1 : Blk w bq 24 #[ptr m.q]) (b2 : Blk w ba 3 #[.int .i64 (p : Int)]) :
    Calls Tryz.prog 47 #[ptr bq, ptr ba] w fun e w' => e = .returned (.tuple #[]) ∧ ∃ FA fc, SQ w' base o { m with FA := FA, fc := fc } { V with L := delL V.L p } ∧ Foot m { m with FA := FA, fc := fc } w w' := by
  have HC : Sl _ := ⟨qtake_any base o m V p w h hp hn⟩; have c1 : w.cell? ⟨bq, 0, none⟩ = some (ptr m.q) := b1.cell 0; have c2 : w.cell? ⟨ba, 0, none⟩ = some (.int .i64 (p : Int)) := b2.cell 0; clear h hp hn b1 b2; go_enter Tryz.func47, Tryz.ntmps47; go_wp2_with fail; refine HC.out.mono ?_; rintro e w3 ⟨rfl, hx⟩; have HX : Sl _ := ⟨hx⟩; clear hx c1 c2; go_wp2_with fail; go_end0; exact ⟨rfl, HX.out⟩
theorem clo_Delete1 (base : Nat) (o : SpO) (m : SqM) (V : SqV RgV) (p : Nat) (bq ba : Nat) (w : World) (h : SQ w base o m V) (hp : p < V.L.length) (hn : V.L.length ≤ 1000)
    (b1 : Blk w bq 24 #[ptr m.q]) (b2 : Blk w ba 3 #[.int .i64 (p : Int)]) :
    Calls Tryz.prog 65 #[ptr bq, ptr ba] w fun e w' => e = .returned (.tuple #[]) ∧ ∃ FA fc, SQ w' base o { m with FA := FA, fc := fc } { V with L := delL V.L p } ∧ Foot m { m with FA := FA, fc := fc } w w' := by
  have HC : Sl _ := ⟨qtake_any base o m V p w h hp hn⟩; have c1 : w.cell? ⟨bq, 0, none⟩ = some (ptr m.q) := b1.cell 0; have c2 : w.cell? ⟨ba, 0, none⟩ = some (.int .i64 (p : Int)) := b2.cell 0; clear h hp hn b1 b2; go_enter Tryz.func65, Tryz.ntmps65; go_wp2_with fail; refine HC.out.mono ?_; rintro e w3 ⟨rfl, hx⟩; have HX : Sl _ := ⟨hx⟩; clear hx c1 c2; go_wp2_with fail; go_end0; exact ⟨rfl, HX.out⟩
theorem own_put {w w' : World} {base g n c p : Nat} {e : TypeId} {xs : List Value} {x0 x1 : Value} {cur : Array Value} (h : w.ownsRow base e 2 (.slice (some ⟨g, 0, none⟩) n c) n xs) (hp : p < n) (hc : Blk w g e cur) (hB : Blk w' g e (putA cur (p * 2) [x0, x1])) :
    w'.ownsRow base e 2 (.slice (some ⟨g, 0, none⟩) n c) n (xs.take (p * 2) ++ [x0, x1] ++ xs.drop ((p + 1) * 2)) := by
  have hlen := h.1; rcases h.2 with ⟨h0, _⟩ | ⟨g', cap, cur', e1, hb, hh, hcc, hm, hs, ht⟩
  · cases h0
  · injection e1 with a _ c'
    injection a with a
    injection a with a
    subst a c'; have hc2 : w.heap[g]? = some (.cells cur e) := hc; rw [hh] at hc2; injection hc2 with hc2
    injection hc2 with hc2 _
    subst hc2; have hl : (xs.take (p * 2)).length = p * 2 := (by rw [List.length_take]; omega); refine ⟨?_, .inr ⟨g, c, _, rfl, hb, hB, hcc, hm, by rw [putA_size]; exact hs, ?_⟩⟩
    · rw [List.length_append, List.length_append, hl, List.length_drop, hlen]; show p * 2 + 2 + _ = _; omega
    · apply List.ext_getElem?; intro j; have e2 : [x0, x1].length = 2 := rfl
      by_cases hj : j < n * 2
      · rw [List.getElem?_take_of_lt hj, Array.getElem?_toList, putA_get _ _ _ _ (by show p * 2 + 2 ≤ _; omega)]
        by_cases h1 : p * 2 ≤ j ∧ j < p * 2 + [x0, x1].length
        · rw [if_pos h1]; have h2 : j < p * 2 + 2 := h1.2; rw [List.append_assoc, List.getElem?_append_right (by omega), hl, List.getElem?_append_left (by show _ < 2; omega)]
        · rw [if_neg h1, ← Array.getElem?_toList, ← List.getElem?_take_of_lt hj, ht]; have h1 : ¬ (p * 2 ≤ j ∧ j < p * 2 + 2) := h1
          by_cases h3 : j < p * 2
          · rw [List.append_assoc, List.getElem?_append_left (by omega), List.getElem?_take_of_lt h3]
          · rw [List.getElem?_append_right (by rw [List.length_append, hl]; show p * 2 + 2 ≤ j; omega), List.length_append, hl, List.getElem?_drop]; congr 1; show j = (p + 1) * 2 + (j - (p * 2 + 2)); omega
      · rw [List.getElem?_eq_none (by rw [List.length_take]; omega), List.getElem?_eq_none (by rw [List.length_append, List.length_append, hl, List.length_drop, hlen]; show p * 2 + 2 + _ ≤ j; omega)]
theorem set_cells (L : List RgV) (p : Nat) (r : RgV) (hp : p < L.length) : (L.set p r).flatMap RgV.cells = (L.flatMap RgV.cells).take (p * 2) ++ [.slice r.A r.n r.c, .slice r.B r.m r.d] ++ (L.flatMap RgV.cells).drop ((p + 1) * 2) := by
  rw [fm_take RgV.cells 2 (fun _ => rfl), fm_drop RgV.cells 2 (fun _ => rfl), List.set_eq_take_append_cons_drop, if_pos hp, List.flatMap_append, List.flatMap_cons, ← List.append_assoc]; rfl
theorem clo_Replace1 (base : Nat) (o : SpO) (m : SqM) (V : SqV RgV) (p : Nat) (r : RgV) (bq ba br : Nat) (w : World) (h : SQ w base o m V) (hp : p < V.L.length) (hn : V.L.length ≤ 1000) (hr : Dep w m.imm fun w' => RgM w' r)
    (b1 : Blk w bq 24 #[ptr m.q]) (b2 : Blk w ba 3 #[.int .i64 (p : Int)]) (b3 : Blk w br 45 #[.slice r.A r.n r.c, .slice r.B r.m r.d]) :
    Calls Tryz.prog 80 #[ptr br, ptr bq, ptr ba] w fun e w' => e = .returned (.tuple #[]) ∧ ∃ FA fc, SQ w' base o { m with FA := FA, fc := fc } { V with L := V.L.set p r } ∧ Foot m { m with FA := FA, fc := fc } w w' := by
  have H : Sl _ := ⟨h⟩; have HR : Sl _ := ⟨hr⟩; have HBB : Sl _ := ⟨And.intro b1 (And.intro b2 b3)⟩; obtain ⟨n, hnn⟩ : ∃ n, V.L.length = n := ⟨_, rfl⟩
  obtain ⟨g, hg⟩ : ∃ g, m.FA = some ⟨g, 0, none⟩ := by
    rcases h.fr.2 with ⟨h0, _⟩ | ⟨g', cap, cur, e1, _⟩
    · injection h0 with _ b _; omega
    · injection e1 with a _ _; exact ⟨g', a⟩
  have HFR : Sl (w.ownsRow base 45 2 (.slice (some ⟨g, 0, none⟩) n m.fc) n (V.L.flatMap RgV.cells)) := ⟨by have := h.fr; rw [hg, hnn] at this; exact this⟩
  obtain ⟨cur, hcur, hcs⟩ : ∃ cur, Blk w g 45 cur ∧ n * 2 ≤ cur.size := by
    rcases HFR.out.2 with ⟨h0, _⟩ | ⟨g', cap, cur, e1, _, hh, hcc, _, hs, _⟩
    · cases h0
    · injection e1 with a _ c'
      injection a with a
      injection a with a
      subst a c'; exact ⟨cur, hh, by rw [hs]; exact Nat.mul_le_mul_right _ hcc⟩
  have HCUR : Sl _ := ⟨And.intro hcur hcs⟩; obtain ⟨q, hq⟩ : ∃ q, m.q = q := ⟨_, rfl⟩; have HQ : Sl (m.q = q ∧ V.L.length = n ∧ m.FA = some ⟨g, 0, none⟩ ∧ p < n) := ⟨⟨hq, hnn, hg, by omega⟩⟩; have HGQ : Sl (g ≠ q) := ⟨by rw [← hq]; exact own_ne HFR.out rfl h.blk (by decide)⟩; have HS : Sl (∀ W, Blk W bq 24 #[ptr q] ∧ Blk W ba 3 #[.int .i64 (p : Int)] ∧ Blk W br 45 #[.slice r.A r.n r.c, .slice r.B r.m r.d] ∧ Blk W q 96 (sqC o m V) → W.cell? ⟨q, 5, none⟩ = some (.slice (some ⟨g, 0, none⟩) n m.fc)) := ⟨fun W hW => by rw [← hnn, ← hg]; exact hW.2.2.2.cell 5⟩; have hS0 : Blk w.drew bq 24 #[ptr q] ∧ Blk w.drew ba 3 #[.int .i64 (p : Int)] ∧ Blk w.drew br 45 #[.slice r.A r.n r.c, .slice r.B r.m r.d] ∧ Blk w.drew q 96 (sqC o m V) := ⟨by rw [← hq]; exact b1, b2, b3, by rw [← hq]; exact h.blk⟩; have hpn : (p : Int) < (n : Int) := (by omega); have hp0 : (0 : Int) ≤ (p : Int) := (by omega); have c1 : w.cell? ⟨bq, 0, none⟩ = some (ptr q) := (by rw [← hq]; exact b1.cell 0); have c2 : w.cell? ⟨ba, 0, none⟩ = some (.int .i64 (p : Int)) := b2.cell 0; have c3 : w.cell? ⟨br, 0, none⟩ = some (.slice r.A r.n r.c) := b3.cell 0; have c4 : w.cell? ⟨br, 1, none⟩ = some (.slice r.B r.m r.d) := b3.cell 1; have c5 := HS.out w.drew hS0; clear h hp hn hr b1 b2 b3 hnn hg hcur hcs hq; go_enter Tryz.func80, Tryz.ntmps80; go_wp2_with fail; clear c1 c2 c3 c4 c5; have hm := hS0; refine wp_region_E (S := fun w' => Blk w' bq 24 #[ptr q] ∧ Blk w' ba 3 #[.int .i64 (p : Int)] ∧ Blk w' br 45 #[.slice r.A r.n r.c, .slice r.B r.m r.d] ∧ Blk w' q 96 (sqC o m V)) 7 (by kernel_rfl) hm (fun hHeld => ?_); clear hm
  refine eC 0 (v := ptr q) rfl rfl (fun w' h => by
    have hc := h.1.cell 0
    go_simp) ?_
  simp only [pS]; refine eS 1 (v := ptr q) rfl rfl ?_; simp only [pS]; refine eS 2 (v := .pointer (some ⟨q, 5, none⟩)) rfl rfl ?_; simp only [pS]
  refine eC 3 (v := .slice (some ⟨g, 0, none⟩) n m.fc) rfl rfl (fun w' h => by
    have hc := HS.out w' h
    go_simp) ?_
  simp only [pS]
  refine eC 4 (v := .int .i64 (p : Int)) rfl rfl (fun w' h => by
    have hc := h.2.1.cell 0
    go_simp) ?_
  simp only [pS]; refine eL 5 45 (.tmp 0) rfl rfl rfl br (0) rfl #[.slice r.A r.n r.c, .slice r.B r.m r.d] _ (fun w' h => by have := World.rangeAt_of_block h.2.2.1 0 2; exact this) Tryz.underlying45 rfl ?_; simp only [pS]; refine eS 6 (v := .pointer (some ⟨g, p * 2, none⟩)) rfl rfl ?_; simp only [pS]; refine eO 7 rfl rfl fun K hK => ?_; refine wp_store_partm 45 (.tmp 9) (.tmp 8) rfl g (p * 2) #[.slice r.A r.n r.c, .slice r.B r.m r.d] rfl rfl 45 cur _ (show Blk w.drew g 45 cur from HCUR.out.1) (by have := HCUR.out.2; have := HQ.out.2.2.2; show p * 2 + 2 ≤ _; omega) rfl (by kernel_rfl) (by simp [Value.oneCell']) ?_; rintro w4 zm zs zb
  have HSQ : Sl (SQ w4 base o { m with FA := m.FA, fc := m.fc } { V with L := V.L.set p r } ∧ Foot m { m with FA := m.FA, fc := m.fc } w w4) := ⟨by
    have zm2 : Mv g w w4 := Mv.trans (Mv.drew g w) zm; refine H.out.frames (FA := m.FA) (fc := m.fc) (L := V.L.set p r) ?_ ?_ ?_ ?_ ?_
    · have e : sqC o { m with FA := m.FA, fc := m.fc } { V with L := V.L.set p r } = sqC o m V := (by unfold sqC; rw [List.length_set]); rw [e, HQ.out.1]; refine (MvP.of_mv zm).blk hS0.2.2.2 (fun e => HGQ.out e.symm)
    · rw [List.length_set, HQ.out.2.1, HQ.out.2.2.1, set_cells _ _ _ (by have := HQ.out; omega)]; exact own_put HFR.out HQ.out.2.2.2 HCUR.out.1 zb
    · exact (MvP.of_mv zm2).mono fun i e => .inr ⟨_, HQ.out.2.2.1, e.symm⟩
    · exact fun i hi => .inl hi
    · intro x hx; rcases List.mem_or_eq_of_mem_set hx with hx | rfl
      · exact H.out.rg x hx
      · exact HR.out⟩
  clear zm zs zb; refine hK.out _ _ (fun h => absurd rfl h) (fun hHeld => ?_); clear hK K
  (try simp only [pS])
  refine wpAnyE_done (by kernel_rfl) ?_ _; clear hHeld; go_wp2_with fail; go_end0; exact ⟨rfl, _, _, HSQ.out⟩
theorem clo_Replace2 (base : Nat) (o : SpO) (m : SqM) (V : SqV RgV) (p : Nat) (r : RgV) (bq ba br : Nat) (w : World) (h : SQ w base o m V) (hp : p < V.L.length) (hn : V.L.length ≤ 1000) (hr : Dep w m.imm fun w' => RgM w' r)
    (b1 : Blk w bq 24 #[ptr m.q]) (b2 : Blk w ba 3 #[.int .i64 (p : Int)]) (b3 : Blk w br 45 #[.slice r.A r.n r.c, .slice r.B r.m r.d]) :
    Calls Tryz.prog 81 #[ptr br, ptr bq, ptr ba] w fun e w' => e = .returned (.tuple #[]) ∧ ∃ FA fc, SQ w' base o { m with FA := FA, fc := fc } { V with L := V.L.set p r } ∧ Foot m { m with FA := FA, fc := fc } w w' := by
  have H : Sl _ := ⟨h⟩; have HR : Sl _ := ⟨hr⟩; have HBB : Sl _ := ⟨And.intro b1 (And.intro b2 b3)⟩; obtain ⟨n, hnn⟩ : ∃ n, V.L.length = n := ⟨_, rfl⟩
  obtain ⟨g, hg⟩ : ∃ g, m.FA = some ⟨g, 0, none⟩ := by
    rcases h.fr.2 with ⟨h0, _⟩ | ⟨g', cap, cur, e1, _⟩
    · injection h0 with _ b _; omega
    · injection e1 with a _ _; exact ⟨g', a⟩
  have HFR : Sl (w.ownsRow base 45 2 (.slice (some ⟨g, 0, none⟩) n m.fc) n (V.L.flatMap RgV.cells)) := ⟨by have := h.fr; rw [hg, hnn] at this; exact this⟩
  obtain ⟨cur, hcur, hcs⟩ : ∃ cur, Blk w g 45 cur ∧ n * 2 ≤ cur.size := by
    rcases HFR.out.2 with ⟨h0, _⟩ | ⟨g', cap, cur, e1, _, hh, hcc, _, hs, _⟩
    · cases h0
    · injection e1 with a _ c'
      injection a with a
      injection a with a
      subst a c'; exact ⟨cur, hh, by rw [hs]; exact Nat.mul_le_mul_right _ hcc⟩
  have HCUR : Sl _ := ⟨And.intro hcur hcs⟩; obtain ⟨q, hq⟩ : ∃ q, m.q = q := ⟨_, rfl⟩; have HQ : Sl (m.q = q ∧ V.L.length = n ∧ m.FA = some ⟨g, 0, none⟩ ∧ p < n) := ⟨⟨hq, hnn, hg, by omega⟩⟩; have HGQ : Sl (g ≠ q) := ⟨by rw [← hq]; exact own_ne HFR.out rfl h.blk (by decide)⟩; have HS : Sl (∀ W, Blk W bq 24 #[ptr q] ∧ Blk W ba 3 #[.int .i64 (p : Int)] ∧ Blk W br 45 #[.slice r.A r.n r.c, .slice r.B r.m r.d] ∧ Blk W q 96 (sqC o m V) → W.cell? ⟨q, 5, none⟩ = some (.slice (some ⟨g, 0, none⟩) n m.fc)) := ⟨fun W hW => by rw [← hnn, ← hg]; exact hW.2.2.2.cell 5⟩; have hS0 : Blk w.drew bq 24 #[ptr q] ∧ Blk w.drew ba 3 #[.int .i64 (p : Int)] ∧ Blk w.drew br 45 #[.slice r.A r.n r.c, .slice r.B r.m r.d] ∧ Blk w.drew q 96 (sqC o m V) := ⟨by rw [← hq]; exact b1, b2, b3, by rw [← hq]; exact h.blk⟩; have hpn : (p : Int) < (n : Int) := (by omega); have hp0 : (0 : Int) ≤ (p : Int) := (by omega); have c1 : w.cell? ⟨bq, 0, none⟩ = some (ptr q) := (by rw [← hq]; exact b1.cell 0); have c2 : w.cell? ⟨ba, 0, none⟩ = some (.int .i64 (p : Int)) := b2.cell 0; have c3 : w.cell? ⟨br, 0, none⟩ = some (.slice r.A r.n r.c) := b3.cell 0; have c4 : w.cell? ⟨br, 1, none⟩ = some (.slice r.B r.m r.d) := b3.cell 1; have c5 := HS.out w.drew hS0; clear h hp hn hr b1 b2 b3 hnn hg hcur hcs hq; go_enter Tryz.func81, Tryz.ntmps81; go_wp2_with fail; clear c1 c2 c3 c4 c5; have hm := hS0; refine wp_region_E (S := fun w' => Blk w' bq 24 #[ptr q] ∧ Blk w' ba 3 #[.int .i64 (p : Int)] ∧ Blk w' br 45 #[.slice r.A r.n r.c, .slice r.B r.m r.d] ∧ Blk w' q 96 (sqC o m V)) 7 (by kernel_rfl) hm (fun hHeld => ?_); clear hm
  refine eC 0 (v := ptr q) rfl rfl (fun w' h => by
    have hc := h.1.cell 0
    go_simp) ?_
  simp only [pS]; refine eS 1 (v := ptr q) rfl rfl ?_; simp only [pS]; refine eS 2 (v := .pointer (some ⟨q, 5, none⟩)) rfl rfl ?_; simp only [pS]
  refine eC 3 (v := .slice (some ⟨g, 0, none⟩) n m.fc) rfl rfl (fun w' h => by
    have hc := HS.out w' h
    go_simp) ?_
  simp only [pS]
  refine eC 4 (v := .int .i64 (p : Int)) rfl rfl (fun w' h => by
    have hc := h.2.1.cell 0
    go_simp) ?_
  simp only [pS]; refine eL 5 45 (.tmp 0) rfl rfl rfl br (0) rfl #[.slice r.A r.n r.c, .slice r.B r.m r.d] _ (fun w' h => by have := World.rangeAt_of_block h.2.2.1 0 2; exact this) Tryz.underlying45 rfl ?_; simp only [pS]; refine eS 6 (v := .pointer (some ⟨g, p * 2, none⟩)) rfl rfl ?_; simp only [pS]; refine eO 7 rfl rfl fun K hK => ?_; refine wp_store_partm 45 (.tmp 9) (.tmp 8) rfl g (p * 2) #[.slice r.A r.n r.c, .slice r.B r.m r.d] rfl rfl 45 cur _ (show Blk w.drew g 45 cur from HCUR.out.1) (by have := HCUR.out.2; have := HQ.out.2.2.2; show p * 2 + 2 ≤ _; omega) rfl (by kernel_rfl) (by simp [Value.oneCell']) ?_; rintro w4 zm zs zb
  have HSQ : Sl (SQ w4 base o { m with FA := m.FA, fc := m.fc } { V with L := V.L.set p r } ∧ Foot m { m with FA := m.FA, fc := m.fc } w w4) := ⟨by
    have zm2 : Mv g w w4 := Mv.trans (Mv.drew g w) zm; refine H.out.frames (FA := m.FA) (fc := m.fc) (L := V.L.set p r) ?_ ?_ ?_ ?_ ?_
    · have e : sqC o { m with FA := m.FA, fc := m.fc } { V with L := V.L.set p r } = sqC o m V := (by unfold sqC; rw [List.length_set]); rw [e, HQ.out.1]; refine (MvP.of_mv zm).blk hS0.2.2.2 (fun e => HGQ.out e.symm)
    · rw [List.length_set, HQ.out.2.1, HQ.out.2.2.1, set_cells _ _ _ (by have := HQ.out; omega)]; exact own_put HFR.out HQ.out.2.2.2 HCUR.out.1 zb
    · exact (MvP.of_mv zm2).mono fun i e => .inr ⟨_, HQ.out.2.2.1, e.symm⟩
    · exact fun i hi => .inl hi
    · intro x hx; rcases List.mem_or_eq_of_mem_set hx with hx | rfl
      · exact H.out.rg x hx
      · exact HR.out⟩
  clear zm zs zb; refine hK.out _ _ (fun h => absurd rfl h) (fun hHeld => ?_); clear hK K
  (try simp only [pS])
  refine wpAnyE_done (by kernel_rfl) ?_ _; clear hHeld; go_wp2_with fail; go_end0; exact ⟨rfl, _, _, HSQ.out⟩
def RunsF (base : Nat) (o : SpO) (m : SqM) (V : SqV RgV) (L : List RgV) (f : FuncId) (args : Array Value) (w : World) : Prop :=
  Calls Tryz.prog f args w fun e w' => e = .returned (.tuple #[]) ∧ ∃ FA fc, SQ w' base o { m with FA := FA, fc := fc } { V with L := L } ∧ Foot m { m with FA := FA, fc := fc } w w'
theorem redo_f {base : Nat} {o : SpO} {m : SqM} {V : SqV RgV} {e : Ed RgV} {u v : Value} {w : World} (h : SQ w base o m V) (he : EdF w m.imm m.q e u v) (hok : e.ok V.L) (hn : V.L.length ≤ 500) : ∃ f args, v = .func (.func f) #[] args ∧ RunsF base o m V (e.fw V.L) f args w := by
  cases e with
  | ins p r =>
    obtain ⟨bq, ba, br, i1, i2, i3, e1, e2, b1, b2, b3, d⟩ := he; exact ⟨_, _, e1, clo_Insert1 base o m V p r bq ba br w h hok.1 (by omega) d b1 b2 b3⟩
  | rep p r x =>
    obtain ⟨bq, ba, br, bo, i1, i2, i3, i4, e1, e2, b1, b2, b3, b4, d1, d2⟩ := he; have hok : V.L[p]? = some x := hok; exact ⟨_, _, e1, clo_Replace1 base o m V p r bq ba br w h (List.getElem?_eq_some_iff.1 hok).1 (by omega) d1 b1 b2 b3⟩
  | del p x =>
    obtain ⟨bq, ba, bo, i1, i2, i3, e1, e2, b1, b2, b3, d⟩ := he; have hok : V.L[p]? = some x := hok; exact ⟨_, _, e1, clo_Delete1 base o m V p bq ba w h (List.getElem?_eq_some_iff.1 hok).1 (by omega) b1 b2⟩
def Ed.ko : Ed RgV → List RgV → Prop
  | .ins p _, L => p < L.length
  | .rep p _ _, L => p < L.length
  | .del p _, L => p ≤ L.length
theorem Ed.ko_fw {e : Ed RgV} {L : List RgV} (h : e.ok L) : e.ko (e.fw L) := by
  cases e with
  | ins p r => show p < (insL L p r).length; rw [insL_len h.1]; have := h.1; omega
  | rep p r x => have h : L[p]? = some x := h; show p < (L.set p r).length; rw [List.length_set]; exact (List.getElem?_eq_some_iff.1 h).1
  | del p x => have h : L[p]? = some x := h; have := (List.getElem?_eq_some_iff.1 h).1; show p ≤ (delL L p).length; rw [delL_len this]; omega
theorem undo_f {base : Nat} {o : SpO} {m : SqM} {V : SqV RgV} {e : Ed RgV} {u v : Value} {w : World} (h : SQ w base o m V) (he : EdF w m.imm m.q e u v) (hok : e.ko V.L) (hn : V.L.length ≤ 500) : ∃ f args, u = .func (.func f) #[] args ∧ RunsF base o m V (e.bw V.L) f args w := by
  cases e with
  | ins p r =>
    obtain ⟨bq, ba, br, i1, i2, i3, e1, e2, b1, b2, b3, d⟩ := he; exact ⟨_, _, e2, clo_Insert2 base o m V p bq ba w h hok (by omega) b1 b2⟩
  | rep p r x =>
    obtain ⟨bq, ba, br, bo, i1, i2, i3, i4, e1, e2, b1, b2, b3, b4, d1, d2⟩ := he; exact ⟨_, _, e2, clo_Replace2 base o m V p x bq ba bo w h hok (by omega) d2 b1 b2 b4⟩
  | del p x =>
    obtain ⟨bq, ba, bo, i1, i2, i3, e1, e2, b1, b2, b3, d⟩ := he; exact ⟨_, _, e2, clo_Delete2 base o m V p x bq ba bo w h hok (by omega) d b1 b2 b3⟩
theorem alloc_edt (w : World) : (Instr.alloc 112 true (.tuple #[])).run Tryz.prog w = .ok (.pointer (some ⟨w.heap.size, 0, none⟩)) (w.alloc (.cells #[.nilFunc, .nilFunc, .int .i64 0, .int .i64 0] 112)) := by kernel_rfl
theorem SQ.edits {w w' : World} {base : Nat} {o : SpO} {m : SqM} {V : SqV RgV} (h : SQ w base o m V) {EA : Option Addr} {ec : Nat} {E : List (EdV RgV)} {VE : List (Value × Value)}
    (hb : Blk w' m.q 96 (sqC o { m with EA := EA, ec := ec, VE := VE } { V with E := E })) (ho : w'.ownsRow base 112 4 (.slice EA E.length ec) E.length ((E.zip VE).flatMap edC))
    (hm : MvP (fun i => i = m.q ∨ blkOf m.EA i) w w') (hat : ∀ i, blkOf EA i → blkOf m.EA i ∨ w.heap.size ≤ i) (hv : VE.length = E.length)
    (hr : ∀ (i : Nat) (x : EdV RgV) (y : Value × Value), E[i]? = some x → VE[i]? = some y → EdF w m.imm m.q x.e y.1 y.2) :
    SQ w' base o { m with EA := EA, ec := ec, VE := VE } { V with E := E } ∧ Foot m { m with EA := EA, ec := ec, VE := VE } w w' := by
  have hni : ∀ i, m.imm i → ¬ (i = m.q ∨ blkOf m.EA i) := fun i hi e => h.ni i (e.elim .inl fun e => .inr (.inr e)) hi
  have hed : ∀ k, (Value.slice m.FA V.L.length m.fc).ownBlock = some k → ¬ (k = m.q ∨ blkOf m.EA k) := fun k hk e => by
    rcases e with e | e
    · exact own_ne h.fr hk h.blk (by decide) e
    · exact own_nee h.fr h.ed hk (blkOf_own.1 e) (by decide)
  have hown : ∀ i, SqM.own { m with EA := EA, ec := ec, VE := VE } i → m.own i ∨ w.heap.size ≤ i := fun i e => by
    rcases e with e | e | e
    · exact .inl (.inl e)
    · exact .inl (.inr (.inl e))
    · exact (hat i e).imp (fun e => .inr (.inr e)) id
  refine ⟨⟨hb, h.qb, hm.own h.fr hed, ho, fun i e hi => ?_, fun i e => Nat.lt_of_lt_of_le (h.lt i e) hm.size, h.sp.go hm hni, fun r hr' => (h.rg r hr').go hm hni, hv, fun i x y h1 h2 => (hr i x y h1 h2).go hm hni⟩,
    ⟨hm.mono fun i e => e.elim .inl fun e => .inr (.inr e), fun i e => ?_, hown, rfl⟩⟩
  · rcases hown i e with e | e
    · exact h.ni i e hi
    · have := h.lt i hi; omega
  · rcases e with e | e
    · exact (hown i e).imp .inl id
    · exact .inl (.inr e)
theorem SQ.pd {w w' : World} {base : Nat} {o : SpO} {m : SqM} {V : SqV RgV} (h : SQ w base o m V) {p d : Nat} (hb : Blk w' m.q 96 (sqC o m { V with p := p, d := d })) (hm : MvP (fun i => i = m.q) w w') :
    SQ w' base o m { V with p := p, d := d } ∧ Foot m m w w' := by
  have hni : ∀ i, m.imm i → ¬ (i = m.q) := fun i hi e => h.ni i (.inl e) hi
  exact ⟨⟨hb, h.qb, hm.own h.fr (fun k hk => own_ne h.fr hk h.blk (by decide)), hm.own h.ed (fun k hk => own_ne h.ed hk h.blk (by decide)), h.ni, fun i e => Nat.lt_of_lt_of_le (h.lt i e) hm.size, h.sp.go hm hni, fun r hr' => (h.rg r hr').go hm hni, h.vn, fun i x y h1 h2 => (h.ev i x y h1 h2).go hm hni⟩,
    ⟨hm.mono fun i e => .inl e, fun _ e => .inl e, fun _ e => .inl e, rfl⟩⟩
theorem zip_take {α β : Type} : ∀ (l : List α) (k : List β) (n : Nat), (l.zip k).take n = (l.take n).zip (k.take n)
  | _, _, 0 => by simp
  | [], _, n + 1 => by simp
  | _ :: _, [], n + 1 => by simp
  | a :: l, b :: k, n + 1 => by simp [zip_take l k n]
theorem zip_drop1 {α β : Type} (l : List α) (k : List β) : (l.zip k).drop 1 = (l.drop 1).zip (k.drop 1) := by
  cases l with
  | nil => simp
  | cons a l => cases k with
    | nil => simp
    | cons b k => simp
theorem edC_one (L : List (EdV RgV × Value × Value)) (hL : ∀ x ∈ L, x.2.1.oneCell' = true ∧ x.2.2.oneCell' = true) : ∀ u ∈ L.flatMap edC, u.oneCell' = true := fun u hu => by
  obtain ⟨x, hx, h⟩ := List.mem_flatMap.1 hu; unfold edC at h; simp only [List.mem_cons, List.not_mem_nil, or_false] at h; rcases h with rfl | rfl | rfl | rfl
  · exact (hL x hx).1
  · exact (hL x hx).2
  · rfl
  · rfl
theorem EdF.one {w : World} {imm : Nat → Prop} {q : Nat} {e : Ed RgV} {u v : Value} (h : EdF w imm q e u v) : u.oneCell' = true ∧ v.oneCell' = true := by
  cases e with
  | ins a r => obtain ⟨bq, ba, br, i1, i2, i3, rfl, rfl, _⟩ := h; exact ⟨rfl, rfl⟩
  | rep a r o => obtain ⟨bq, ba, br, bo, i1, i2, i3, i4, rfl, rfl, _⟩ := h; exact ⟨rfl, rfl⟩
  | del a o => obtain ⟨bq, ba, bo, i1, i2, i3, rfl, rfl, _⟩ := h; exact ⟨rfl, rfl⟩
theorem SQ.ones {w : World} {base : Nat} {o : SpO} {m : SqM} {V : SqV RgV} (h : SQ w base o m V) : ∀ x ∈ V.E.zip m.VE, x.2.1.oneCell' = true ∧ x.2.2.oneCell' = true := fun x hx => by
  obtain ⟨i, hi⟩ := List.mem_iff_getElem?.1 hx; rw [List.getElem?_zip_eq_some] at hi; exact (h.ev i x.1 x.2 hi.1 hi.2).one
theorem own_some {w : World} {base size n c : Nat} {e : TypeId} {A : Option Addr} {xs : List Value} (h : w.ownsRow base e size (.slice A n c) n xs) : (A = none ∧ n = 0 ∧ c = 0) ∨ ∃ g, A = some ⟨g, 0, none⟩ ∧ n ≤ c ∧ c ≤ 9223372036854775807 := by
  rcases h.2 with ⟨h0, _⟩ | ⟨g', cap, cur, e1, _, _, hcc, hm, _⟩
  · injection h0 with a b c'
    exact .inl ⟨a, b, c'⟩
  · injection e1 with a _ c'
    subst c'; exact .inr ⟨g', a, hcc, by unfold maxLen at hm; exact hm⟩
def edX (V : SqV RgV) (e : Ed RgV) : List (EdV RgV) := V.E.take V.d ++ [⟨e, V.p, 0⟩]
theorem does_row {w w2 w3 : World} {base : Nat} {o : SpO} {m : SqM} {V : SqV RgV} {e : Ed RgV} {fu fv : FuncId} {au av : Array Value} {v' : Value} (h : SQ w base o m V) (hd : V.d ≤ V.E.length)
    (ho : w3.ownsRow base 112 4 v' (V.d + 1) ((((V.E.zip m.VE).flatMap edC).take (V.d * 4)) ++ [.func (.func fu) #[] au, .func (.func fv) #[] av, .int .i64 (V.p : Int), .int .i64 0])) :
    w3.ownsRow base 112 4 v' (edX V e).length (((edX V e).zip (m.VE.take V.d ++ [(.func (.func fu) #[] au, .func (.func fv) #[] av)])).flatMap edC) ∧ (edX V e).length = V.d + 1 ∧ (m.VE.take V.d ++ [((.func (.func fu) #[] au : Value), (.func (.func fv) #[] av : Value))]).length = (edX V e).length := by
  have hl : (edX V e).length = V.d + 1 := (by unfold edX; rw [List.length_append, List.length_take]; simp; omega); have hl2 : (m.VE.take V.d ++ [((.func (.func fu) #[] au : Value), (.func (.func fv) #[] av : Value))]).length = V.d + 1 := (by rw [List.length_append, List.length_take, h.vn]; simp; omega); refine ⟨?_, hl, by rw [hl, hl2]⟩; rw [hl]
  have : ((edX V e).zip (m.VE.take V.d ++ [(.func (.func fu) #[] au, .func (.func fv) #[] av)])).flatMap edC = (((V.E.zip m.VE).flatMap edC).take (V.d * 4)) ++ [.func (.func fu) #[] au, .func (.func fv) #[] av, .int .i64 (V.p : Int), .int .i64 0] := by
    unfold edX; rw [List.zip_append (by rw [List.length_take, List.length_take, h.vn]), ← zip_take, fm_take edC 4 (fun _ => rfl), List.flatMap_append]; rfl
  rw [this]; exact ho
theorem does_any (base : Nat) (o : SpO) (m : SqM) (V : SqV RgV) (e : Ed RgV) (pos : Nat) (fu fv : FuncId) (au av : Array Value) (w : World) (h : SQ w base o m V) (hd : V.d ≤ V.E.length) (he : V.E.length ≤ 100) (hn : V.L.length ≤ 500) (hok : e.ok V.L)
    (hf : EdF w m.imm m.q e (.func (.func fu) #[] au) (.func (.func fv) #[] av)) :
    Calls Tryz.prog 44 #[ptr m.q, .int .i64 (pos : Int), .func (.func fv) #[] av, .func (.func fu) #[] au] w fun en w' => en = .returned (.tuple #[]) ∧ ∃ m', SQ w' base o m' (V.does e pos) ∧ Foot m m' w w' := by
  have H : Sl _ := ⟨h⟩; have HFF : Sl _ := ⟨hf⟩; have HOK : Sl _ := ⟨hok⟩; obtain ⟨q, hq⟩ : ∃ q, m.q = q := ⟨_, rfl⟩; obtain ⟨EA, hEA⟩ : ∃ EA, m.EA = EA := ⟨_, rfl⟩; obtain ⟨ec, hec⟩ : ∃ ec, m.ec = ec := ⟨_, rfl⟩; obtain ⟨n, hen⟩ : ∃ n, V.E.length = n := ⟨_, rfl⟩; obtain ⟨d, hdd⟩ : ∃ d, V.d = d := ⟨_, rfl⟩; obtain ⟨bp, hbp⟩ : ∃ bp, V.p = bp := ⟨_, rfl⟩; have HQ : Sl (m.q = q ∧ m.EA = EA ∧ m.ec = ec ∧ V.E.length = n ∧ V.d = d ∧ V.p = bp) := ⟨⟨hq, hEA, hec, hen, hdd, hbp⟩⟩; have HN : Sl (d ≤ n ∧ n ≤ 100 ∧ V.L.length ≤ 500) := ⟨⟨by omega, by omega, hn⟩⟩; have hEAc : (EA = none ∧ n = 0 ∧ ec = 0) ∨ ∃ g, EA = some ⟨g, 0, none⟩ ∧ n ≤ ec ∧ ec ≤ 9223372036854775807 := (by have := own_some h.ed; rw [hEA, hec, hen] at this; exact this); have HEA : Sl _ := ⟨hEAc⟩
  have HC : Sl (∀ W, Blk W q 96 (sqC o m V) → (W.cell? ⟨q, 6, none⟩ = some (.int .i64 (bp : Int)) ∧ W.cell? ⟨q, 7, none⟩ = some (.slice EA n ec) ∧ W.cell? ⟨q, 8, none⟩ = some (.int .i64 (d : Int)))) := ⟨fun W hW => by
    rw [← hbp, ← hEA, ← hec, ← hen, ← hdd]
    exact ⟨hW.cell 6, hW.cell 7, hW.cell 8⟩⟩
  rw [hq]; have c6 := (HC.out w (by rw [← hq]; exact h.blk)).1; clear h hf hok hd he hn hq hEA hec hen hdd hbp hEAc; go_enter Tryz.func44, Tryz.ntmps44
  go_upto_region 1 with ((with_reducible show wpList _ _ _ _ _ _); first
    | (refine wpList_alloc_new 8 rfl rfl 112 rfl #[.nilFunc, .nilFunc, .int .i64 0, .int .i64 0] alloc_edt ?_; rintro w1 gx zg zm zs zb; have HX : Sl (Below w.heap.size w w1 ∧ gx = w.heap.size ∧ Blk w1 gx 112 #[.nilFunc, .nilFunc, .int .i64 0, .int .i64 0]) := ⟨⟨below_mv (Below.refl _ _) zm (Nat.le_refl _) (Nat.le_refl _), zg, zb⟩⟩; clear zg zm zs zb)
    | (refine wpList_store_whole rfl 112 (.tmp 8) (.tmp 15) rfl gx #[.func (.func fu) #[] au, .func (.func fv) #[] av, .int .i64 (bp : Int), .int .i64 0] rfl rfl 112 _ HX.out.2.2 rfl (by kernel_rfl) (by simp [Value.oneCell']) ?_; rintro w2 zm zs zb; replace HX : Sl (Below w.heap.size w w2 ∧ gx = w.heap.size ∧ Blk w2 gx 112 #[.func (.func fu) #[] au, .func (.func fv) #[] av, .int .i64 (bp : Int), .int .i64 0]) := ⟨⟨below_mv HX.out.1 zm (by rw [HX.out.2.1]; exact Nat.le_refl _) HX.out.1.size, HX.out.2.1, zb⟩⟩; clear zm zs zb))
  have H2 : Sl _ := ⟨H.out.below HX.out.1⟩; have hb2 : Blk w2 q 96 (sqC o m V) := (by rw [← HQ.out.1]; exact H2.out.blk); obtain ⟨_, d7, d8⟩ := HC.out w2 hb2; have x0 : w2.cell? ⟨gx, 0, none⟩ = some (.func (.func fu) #[] au) := HX.out.2.2.cell 0; have x1 : w2.cell? ⟨gx, 1, none⟩ = some (.func (.func fv) #[] av) := HX.out.2.2.cell 1; have x2 : w2.cell? ⟨gx, 2, none⟩ = some (.int .i64 (bp : Int)) := HX.out.2.2.cell 2; have x3 : w2.cell? ⟨gx, 3, none⟩ = some (.int .i64 0) := HX.out.2.2.cell 3; clear c6; go_wp2_with fail; clear d7 d8 x0 x1 x2 x3; have hS0 : Blk w2.drew q 96 (sqC o m V) ∧ Blk w2.drew gx 112 #[.func (.func fu) #[] au, .func (.func fv) #[] av, .int .i64 (bp : Int), .int .i64 0] := ⟨hb2, HX.out.2.2⟩; clear hb2; have hm := hS0; refine wp_region_E (S := fun w' => Blk w' q 96 (sqC o m V) ∧ Blk w' gx 112 #[.func (.func fu) #[] au, .func (.func fv) #[] av, .int .i64 (bp : Int), .int .i64 0]) 15 (by kernel_rfl) hm (fun hHeld => ?_); clear hm; refine eM 0 (v := ptr q) rfl rfl ?_; simp only [pS]; refine eM 1 (v := ptr q) rfl rfl ?_; simp only [pS]; refine eS 2 (v := ptr q) rfl rfl ?_; simp only [pS]; refine eS 3 (v := .pointer (some ⟨q, 7, none⟩)) rfl rfl ?_; simp only [pS]
  refine eC 4 (v := .slice EA n ec) rfl rfl (fun w' h => by
    have hc := (HC.out w' h.1).2.1
    go_simp) ?_
  simp only [pS]; refine eM 5 (v := ptr q) rfl rfl ?_; simp only [pS]; refine eS 6 (v := ptr q) rfl rfl ?_; simp only [pS]; refine eS 7 (v := .pointer (some ⟨q, 8, none⟩)) rfl rfl ?_; simp only [pS]
  refine eC 8 (v := .int .i64 (d : Int)) rfl rfl (fun w' h => by
    have hc := (HC.out w' h.1).2.2
    go_simp) ?_
  simp only [pS]
  refine eP 9 (v := .slice EA d ec) rfl rfl (fun _ => by
    have hN := HN.out; have h1 : (0 : Int) ≤ (d : Int) := (by omega); rcases HEA.out with ⟨rfl, rfl, rfl⟩ | ⟨g, rfl, hc1, hc2⟩
    · obtain rfl : d = 0 := (by omega); go_simp
    · have h2 : (d : Int) ≤ (ec : Int) := (by omega)
      go_simp) ?_
  simp only [pS]; refine eL 10 112 (.tmp 8) rfl rfl rfl gx (0) rfl #[.func (.func fu) #[] au, .func (.func fv) #[] av, .int .i64 (bp : Int), .int .i64 0] _ (fun w' h => by have := World.rangeAt_of_block h.2 0 4; exact this) Tryz.underlying112 rfl ?_; simp only [pS]; refine eO 11 rfl rfl fun K hK => ?_; go_simp; have hS2 : Blk (w2.alloc (.cells #[.func (.func fu) #[] au, .func (.func fv) #[] av, .int .i64 (bp : Int), .int .i64 0] 112)).drew q 96 (sqC o m V) ∧ Blk (w2.alloc (.cells #[.func (.func fu) #[] au, .func (.func fv) #[] av, .int .i64 (bp : Int), .int .i64 0] 112)).drew gx 112 #[.func (.func fu) #[] au, .func (.func fv) #[] av, .int .i64 (bp : Int), .int .i64 0] := ⟨(hS0.1 : Blk w2 q 96 (sqC o m V)).alloc _, (hS0.2 : Blk w2 gx 112 #[.func (.func fu) #[] au, .func (.func fv) #[] av, .int .i64 (bp : Int), .int .i64 0]).alloc _⟩; have HB2 : Sl (Below w2.heap.size w2 (w2.alloc (.cells #[.func (.func fu) #[] au, .func (.func fv) #[] av, .int .i64 (bp : Int), .int .i64 0] 112)).drew) := ⟨((Below.refl _ _).alloc (by simp) _).drew⟩; have HV : Sl (Blk (w2.alloc (.cells #[.func (.func fu) #[] au, .func (.func fv) #[] av, .int .i64 (bp : Int), .int .i64 0] 112)).drew w2.heap.size 112 #[.func (.func fu) #[] au, .func (.func fv) #[] av, .int .i64 (bp : Int), .int .i64 0]) := ⟨Blk.new w2 112 #[.func (.func fu) #[] au, .func (.func fv) #[] av, .int .i64 (bp : Int), .int .i64 0]⟩; refine hK.out _ _ (fun _ => hS2) (fun hHeld => ?_); clear hK K hS0
  (try simp only [pS])
  generalize (w2.alloc (.cells #[.func (.func fu) #[] au, .func (.func fv) #[] av, .int .i64 (bp : Int), .int .i64 0] 112)).drew = w4 at *
  have HOW : Sl (w4.ownsRow base 112 4 (.slice EA d ec) d (((V.E.zip m.VE).flatMap edC).take (d * 4))) := ⟨by
    have ho := (MvP.of_below HB2.out).own H2.out.ed (fun _ _ e => e); rw [HQ.out.2.1, HQ.out.2.2.1, HQ.out.2.2.2.1] at ho; rcases HEA.out with ⟨rfl, rfl, rfl⟩ | ⟨g, rfl, _⟩
    · obtain rfl : d = 0 := (by have := HN.out; omega); exact World.ownsRow_nil _ _ _ _
    · exact own_take ho HN.out.1⟩
  have HNE : Sl (∀ k, blkOf EA k → k ≠ q) := ⟨fun k hk => by
    rw [← HQ.out.1]; rw [← HQ.out.2.1] at hk
    exact own_ne H2.out.ed (blkOf_own.1 hk) H2.out.blk (by decide)⟩
  have HBS : Sl (base ≤ w4.heap.size) := ⟨by have h1 := H2.out.qb; have h2 := H2.out.blk.lt; have h3 := HB2.out.size; omega⟩
  have HRD : Sl (Reads w4 w4.heap.size 4 (some ⟨w2.heap.size, 0, none⟩) 1 [.func (.func fu) #[] au, .func (.func fv) #[] av, .int .i64 (bp : Int), .int .i64 0]) := ⟨⟨rfl, fun _ => ⟨_, rfl, HV.out.lt, fun j u hu => by
    rw [add_at, HV.out.cell, Nat.zero_add, ← Array.getElem?_toList]
    exact hu⟩⟩⟩
  obtain ⟨ii, k1, k2, k3, k4⟩ := info_edt; have HI : Sl _ := ⟨And.intro k1 (And.intro k2 (And.intro k3 k4))⟩; clear k1 k2 k3 k4; refine eO 12 rfl rfl fun K hK => ?_; refine wp_append_any (P := Tryz.prog) _ (.tmp 25) (.tmp 27) 94 rfl base 112 ii _ 4 32 Tryz.underlying94 HI.out.1 HI.out.2.2.1 HI.out.2.1 HI.out.2.2.2 rfl (by decide) _ d _ rfl HOW.out w4.heap.size (some ⟨w2.heap.size, 0, none⟩) 1 1 [.func (.func fu) #[] au, .func (.func fv) #[] av, .int .i64 (bp : Int), .int .i64 0] rfl HRD.out (by intro u hu; simp only [List.mem_cons, List.not_mem_nil, or_false] at hu; rcases hu with rfl | rfl | rfl | rfl <;> rfl) (by have := HN.out; unfold maxLen; omega) (by have := HN.out; omega) HBS.out ?_; rintro v' w5 ho hg hat
  obtain ⟨A', c', rfl, hA'⟩ : ∃ A' c', v' = .slice A' (d + 1) c' ∧ ∃ g, A' = some ⟨g, 0, none⟩ := by
    rcases ho.2 with ⟨_, h0⟩ | ⟨g, cap, cur, rfl, _⟩
    · omega
    · exact ⟨_, _, rfl, _, rfl⟩
  have hS3 : Blk w5 q 96 (sqC o m V) ∧ Blk w5 gx 112 #[.func (.func fu) #[] au, .func (.func fv) #[] av, .int .i64 (bp : Int), .int .i64 0] := by
    have hm := MvP.of_grown hg; refine ⟨hm.blk hS2.1 (fun e => HNE.out q (blkOf_own.2 e) rfl), hm.blk hS2.2 (fun e => ?_)⟩; have h1 := (own_lt2 H.out.ed (k := gx) (by rw [HQ.out.2.1]; exact blkOf_own.1 (blkOf_own.2 e))).2; rw [HX.out.2.1] at h1; omega
  refine hK.out _ _ (fun _ => hS3) (fun hHeld => ?_); clear hK K
  (try simp only [pS])
  refine eS 13 (v := ptr q) rfl rfl ?_; simp only [pS]; refine eS 14 (v := .pointer (some ⟨q, 7, none⟩)) rfl rfl ?_; simp only [pS]; refine eO 15 rfl rfl fun K hK => ?_; refine wp_store_celm 94 (.tmp 30) (.tmp 28) rfl q 7 (.slice A' (d + 1) c') rfl rfl 96 _ _ hS3.1 (by simp [sqC]) rfl (by kernel_rfl) rfl rfl ?_; rintro w6 zm zs zb
  have HSQ : Sl (SQ w6 base o { m with EA := A', ec := c', VE := m.VE.take V.d ++ [(.func (.func fu) #[] au, .func (.func fv) #[] av)] } { V with E := edX V e } ∧ Foot m { m with EA := A', ec := c', VE := m.VE.take V.d ++ [(.func (.func fu) #[] au, .func (.func fv) #[] av)] } w w6) := ⟨by
    have hq := HQ.out.1; have hdd := HQ.out.2.2.2.2.1; have hpp := HQ.out.2.2.2.2.2; have hEA := HQ.out.2.1; subst hq hdd hpp hEA; obtain ⟨r1, r2, r3⟩ := does_row (w2 := w4) (e := e) H.out (by have := HN.out; have := HQ.out; omega) ho; rw [← r2] at r1 zb; refine H.out.edits ?_ ?_ ?_ ?_ r3 ?_
    · have e : sqC o { m with EA := A', ec := c', VE := m.VE.take V.d ++ [(.func (.func fu) #[] au, .func (.func fv) #[] av)] } { V with E := edX V e } = (sqC o m V).setIfInBounds 7 (.slice A' (edX V e).length c') := rfl; rw [e]; exact zb
    · exact (MvP.of_mv zm).own r1 (fun k hk e => own_ne r1 hk hS3.1 (by decide) e)
    · refine MvP.trans2 (b := w2) ((MvP.of_below HX.out.1).mono fun _ e => e.elim) (MvP.trans2 (b := w4) ((MvP.of_below HB2.out).mono fun _ e => e.elim) (MvP.trans2 (b := w5) ((MvP.of_grown hg).mono fun i e => .inr (blkOf_own.2 e)) ((MvP.of_mv zm).mono fun i e => .inl e) fun i _ e => e) fun i _ e => e) fun i _ e => e
    · intro i hi; have hi2 : (Value.slice A' (V.d + 1) c').ownBlock = some i := blkOf_own.1 hi; rcases hat with e | e
      · exact .inl (blkOf_own.2 (e.symm.trans hi2))
      · rw [hi2] at e; injection e with e
        have h1 := HX.out.1.size; have h2 := HB2.out.size; exact .inr (by omega)
    · intro i x y hx hy; rcases take_get (by have := HN.out; have := HQ.out; omega) hx with ⟨h1, h2⟩ | ⟨h1, h2⟩
      · rcases take_get (by have := HN.out; have := HQ.out; have := H.out.vn; omega) hy with ⟨h3, h4⟩ | ⟨h3, h4⟩
        · exact H.out.ev i x y h2 h4
        · omega
      · rcases take_get (by have := HN.out; have := HQ.out; have := H.out.vn; omega) hy with ⟨h3, h4⟩ | ⟨h3, h4⟩
        · omega
        · subst h2 h4
          exact HFF.out⟩
  clear ho hg hat zm zs zb hS2 hS3 hA'; refine hK.out _ _ (fun h => absurd rfl h) (fun hHeld => ?_); clear hK K
  (try simp only [pS])
  refine wpAnyE_done (by kernel_rfl) ?_ _; clear hHeld
  have hrun : ∀ (args : Array Value) (w : World), (callFunc fv args).run Tryz.prog w = .ok (.enter fv args) w := by
    have hf := HFF.out
    cases e with
    | ins p r => obtain ⟨bq, ba, br, i1, i2, i3, e1, _⟩ := hf; injection e1 with e1; injection e1 with e1; subst e1; intro a w; go_simp
    | rep p r x => obtain ⟨bq, ba, br, bo, i1, i2, i3, i4, e1, _⟩ := hf; injection e1 with e1; injection e1 with e1; subst e1; intro a w; go_simp
    | del p x => obtain ⟨bq, ba, bo, i1, i2, i3, e1, _⟩ := hf; injection e1 with e1; injection e1 with e1; subst e1; intro a w; go_simp
  have HDEF : Sl (V.does e pos = ⟨e.fw V.L, pos, trim (edX V e), (trim (edX V e)).length⟩) := ⟨rfl⟩; have HTL : Sl ((edX V e).length = d + 1) := ⟨by unfold edX; rw [List.length_append, List.length_take]; have := HN.out; have := HQ.out; simp; omega⟩; have HB6 : Sl (Blk w6 q 96 (sqC o { m with EA := A', ec := c', VE := m.VE.take V.d ++ [((.func (.func fu) #[] au : Value), (.func (.func fv) #[] av : Value))] } { V with E := edX V e })) := ⟨by have := HSQ.out.1.blk; rw [← HQ.out.1]; exact this⟩; have c7 : w6.cell? ⟨q, 7, none⟩ = some (.slice A' (d + 1) c') := (by rw [← HTL.out]; exact HB6.out.cell 7); clear HEA HC HX H2 HB2 HV HOW HNE HBS HRD HI
  by_cases h100 : 100 < d + 1
  · have p1 : decide ((100 : Int) < (d : Int) + 1) = true := decide_eq_true (by omega); have p2 : (100 : Int) < (d : Int) + 1 := (by omega); have HTE : Sl (trim (edX V e) = (edX V e).drop 1) := ⟨by unfold trim; rw [if_pos (by rw [HTL.out]; exact h100)]⟩
    obtain ⟨g, hg⟩ : ∃ g, A' = some ⟨g, 0, none⟩ := by
      rcases own_some HSQ.out.1.ed with ⟨_, h0, _⟩ | ⟨g, h0, _⟩
      · have h0 : (edX V e).length = 0 := h0; have := HTL.out; omega
      · exact ⟨g, h0⟩
    subst hg
    have HDEL : Sl (Calls Tryz.prog 107 #[.slice (some ⟨g, 0, none⟩) (d + 1) c', .int .i64 0, .int .i64 1] w6 fun en w' => en = .returned (.slice (some ⟨g, 0, none⟩) d c') ∧
        w'.ownsRow base 112 4 (.slice (some ⟨g, 0, none⟩) d c') d ((((edX V e).drop 1).zip ((m.VE.take V.d ++ [((.func (.func fu) #[] au : Value), (.func (.func fv) #[] av : Value))]).drop 1)).flatMap edC) ∧ w6.grownBy w' (some g)) := ⟨by
      have ho := HSQ.out.1.ed; have hl : (SqV.E { V with E := edX V e }).length = d + 1 := HTL.out; rw [hl] at ho; have h := del_edt ho (i := 0) (by omega) (by have := HN.out; omega) (edC_one _ HSQ.out.1.ones); rw [Nat.zero_mul, List.take_zero, List.nil_append, fm_drop edC 4 (fun _ => rfl), zip_drop1] at h
      exact h⟩
    clear h100; go_wp2_with fail; refine HDEL.out.mono ?_; rintro en w7 ⟨rfl, ho, hg⟩; have HO : Sl _ := ⟨And.intro ho hg⟩
    have HB7 : Sl (Blk w7 q 96 (sqC o { m with EA := some ⟨g, 0, none⟩, ec := c', VE := m.VE.take V.d ++ [((.func (.func fu) #[] au : Value), (.func (.func fv) #[] av : Value))] } { V with E := edX V e })) := ⟨by
      refine (MvP.of_grown hg).blk HB6.out (fun e => ?_); have hk := own_ne HSQ.out.1.ed (k := q) (by injection e with e; subst e; rfl) HSQ.out.1.blk (by decide)
      exact hk HQ.out.1.symm⟩
    clear ho hg c7
    go_upto_region 4 with ((with_reducible show wpList _ _ _ _ _ _); (refine wpList_store_cell rfl 94 (.tmp 44) (.tmp 42) rfl q 7 (.slice (some ⟨g, 0, none⟩) d c') rfl rfl 96 _ _ HB7.out (by simp [sqC]) rfl (by kernel_rfl) rfl rfl ?_; rintro w8 zm zs zb zw; have HZ : Sl _ := ⟨And.intro zm zb⟩; clear zm zs zb zw))
    have hl8 : ((edX V e).drop 1).length = d := (by rw [List.length_drop, HTL.out]; rfl)
    have HS2 : Sl (SQ w8 base o { m with EA := some ⟨g, 0, none⟩, ec := c', VE := (m.VE.take V.d ++ [((.func (.func fu) #[] au : Value), (.func (.func fv) #[] av : Value))]).drop 1 } { V with E := trim (edX V e) } ∧ Foot m { m with EA := some ⟨g, 0, none⟩, ec := c', VE := (m.VE.take V.d ++ [((.func (.func fu) #[] au : Value), (.func (.func fv) #[] av : Value))]).drop 1 } w w8) := ⟨by
      rw [HTE.out]; have h := HSQ.out.1.edits (w' := w8) (EA := some ⟨g, 0, none⟩) (ec := c') (E := (edX V e).drop 1) (VE := (m.VE.take V.d ++ [((.func (.func fu) #[] au : Value), (.func (.func fv) #[] av : Value))]).drop 1) ?_ ?_ ?_ ?_ ?_ ?_
      · exact ⟨h.1, HSQ.out.2.trans h.2⟩
      · have e : sqC o { m with EA := some ⟨g, 0, none⟩, ec := c', VE := (m.VE.take V.d ++ [((.func (.func fu) #[] au : Value), (.func (.func fv) #[] av : Value))]).drop 1 } { V with E := (edX V e).drop 1 } = (sqC o { m with EA := some ⟨g, 0, none⟩, ec := c', VE := m.VE.take V.d ++ [((.func (.func fu) #[] au : Value), (.func (.func fv) #[] av : Value))] } { V with E := edX V e }).setIfInBounds 7 (.slice (some ⟨g, 0, none⟩) d c') := (by rw [← hl8]; rfl); show Blk w8 m.q _ _; rw [HQ.out.1]; exact (congrArg (Blk w8 q 96) e).mpr HZ.out.2
      · rw [hl8]; exact (MvP.of_mv HZ.out.1).own HO.out.1 (fun k hk e => own_ne HO.out.1 hk HB7.out (by decide) e)
      · exact MvP.trans2 (b := w7) ((MvP.of_grown HO.out.2).mono fun i e => .inr ⟨_, rfl, by injection e⟩) ((MvP.of_mv HZ.out.1).mono fun i e => .inl (by rw [e]; exact HQ.out.1.symm)) fun i _ e => e
      · exact fun i hi => .inl hi
      · have := HSQ.out.1.vn; rw [List.length_drop, List.length_drop]; exact congrArg (· - 1) this
      · intro i x y hx hy; rw [List.getElem?_drop] at hx hy
        exact HSQ.out.1.ev (1 + i) x y hx hy⟩
    have HTK : Sl ((trim (edX V e)).length = d) := ⟨by rw [HTE.out]; exact hl8⟩; clear hl8 HO HZ HB7 HDEL p1 p2; have c7 : w8.cell? ⟨q, 7, none⟩ = some (.slice (some ⟨g, 0, none⟩) d c') := (by have h := HS2.out.1.cell 7 rfl; rw [← HTK.out, ← HQ.out.1]; exact h); have HB8 : Sl (Blk w8 q 96 (sqC o { m with EA := some ⟨g, 0, none⟩, ec := c', VE := (m.VE.take V.d ++ [((.func (.func fu) #[] au : Value), (.func (.func fv) #[] av : Value))]).drop 1 } { V with E := trim (edX V e) })) := ⟨by rw [← HQ.out.1]; exact HS2.out.1.blk⟩
    go_upto_region 5 with ((with_reducible show wpList _ _ _ _ _ _); (refine wpList_store_cell rfl 3 (.tmp 52) (.tmp 50) rfl q 8 _ rfl rfl 96 _ _ HB8.out (by simp [sqC]) rfl (by kernel_rfl) rfl rfl ?_; rintro wA zm zs zb zw; have HZ : Sl _ := ⟨And.intro zm zb⟩; clear zm zs zb zw))
    have HS3 : Sl (SQ wA base o { m with EA := some ⟨g, 0, none⟩, ec := c', VE := (m.VE.take V.d ++ [((.func (.func fu) #[] au : Value), (.func (.func fv) #[] av : Value))]).drop 1 } { V with E := trim (edX V e), d := (trim (edX V e)).length } ∧ Foot m { m with EA := some ⟨g, 0, none⟩, ec := c', VE := (m.VE.take V.d ++ [((.func (.func fu) #[] au : Value), (.func (.func fv) #[] av : Value))]).drop 1 } w wA) := ⟨by
      have h := HS2.out.1.pd (w' := wA) (p := V.p) (d := (trim (edX V e)).length) ?_ ?_
      · exact ⟨h.1, HS2.out.2.trans h.2⟩
      · show Blk wA m.q _ _; rw [HQ.out.1, HTK.out]; exact HZ.out.2
      · exact (MvP.of_mv HZ.out.1).mono fun i e => e.trans HQ.out.1.symm⟩
    have HRF : Sl (RunsF base o { m with EA := some ⟨g, 0, none⟩, ec := c', VE := (m.VE.take V.d ++ [((.func (.func fu) #[] au : Value), (.func (.func fv) #[] av : Value))]).drop 1 } { V with E := trim (edX V e), d := (trim (edX V e)).length } (e.fw V.L) fv av wA) := ⟨by
      have hf : EdF wA m.imm m.q e (.func (.func fu) #[] au) (.func (.func fv) #[] av) := HFF.out.go HS3.out.2.mv (fun i hi ho => H.out.ni i ho hi); obtain ⟨f, args, e1, h⟩ := redo_f (m := { m with EA := some ⟨g, 0, none⟩, ec := c', VE := (m.VE.take V.d ++ [((.func (.func fu) #[] au : Value), (.func (.func fv) #[] av : Value))]).drop 1 }) HS3.out.1 hf HOK.out HN.out.2.2; injection e1 with e1 _ e2
      injection e1 with e1
      subst e1 e2
      exact h⟩
    clear c7 HZ HB8 HS2; go_wp2_with fail; refine HRF.out.mono ?_; rintro en wB ⟨rfl, FA2, fc2, hsq, hft⟩; have HS4 : Sl _ := ⟨And.intro hsq (HS3.out.2.trans hft)⟩; have HBB : Sl (Blk wB q 96 _) := ⟨by have h := hsq.blk; rw [← HQ.out.1]; exact h⟩; clear hsq hft HRF HS3 hrun; go_wp2_with ((with_reducible show wpList _ _ _ _ _ _); (refine wpList_store_cell rfl 3 (.tmp 58) (.tmp 56) rfl q 6 (.int .i64 (pos : Int)) rfl rfl 96 _ _ HBB.out (by simp [sqC]) rfl (by kernel_rfl) rfl rfl ?_; rintro wC zm zs zb zw; have HZ : Sl _ := ⟨And.intro zm zb⟩; clear zm zs zb zw)); go_end0; have hfin := HS4.out.1.pd (w' := wC) (p := pos) (d := (trim (edX V e)).length) (by show Blk wC m.q _ _; rw [HQ.out.1]; exact HZ.out.2) ((MvP.of_mv HZ.out.1).mono fun i e => e.trans HQ.out.1.symm); refine ⟨rfl, _, ?_, HS4.out.2.trans hfin.2⟩; rw [HDEF.out]; exact hfin.1
  · have p1 : decide ((100 : Int) < (d : Int) + 1) = false := decide_eq_false (by omega); have p2 : ¬ (100 : Int) < (d : Int) + 1 := (by omega); have HTE : Sl (trim (edX V e) = edX V e) := ⟨by unfold trim; rw [if_neg (by rw [HTL.out]; exact h100)]⟩; have HS2 : Sl (SQ w6 base o { m with EA := A', ec := c', VE := m.VE.take V.d ++ [((.func (.func fu) #[] au : Value), (.func (.func fv) #[] av : Value))] } { V with E := trim (edX V e) } ∧ Foot m { m with EA := A', ec := c', VE := m.VE.take V.d ++ [((.func (.func fu) #[] au : Value), (.func (.func fv) #[] av : Value))] } w w6) := ⟨by rw [HTE.out]; exact HSQ.out⟩; have HTK : Sl ((trim (edX V e)).length = d + 1) := ⟨by rw [HTE.out]; exact HTL.out⟩; clear h100
    go_upto_region 4 with fail
    clear c7 p1 p2; have c7 : w6.cell? ⟨q, 7, none⟩ = some (.slice (A') (d + 1) c') := (by have h := HS2.out.1.cell 7 rfl; rw [← HTK.out, ← HQ.out.1]; exact h); have HB8 : Sl (Blk w6 q 96 (sqC o { m with EA := A', ec := c', VE := m.VE.take V.d ++ [((.func (.func fu) #[] au : Value), (.func (.func fv) #[] av : Value))] } { V with E := trim (edX V e) })) := ⟨by rw [← HQ.out.1]; exact HS2.out.1.blk⟩
    go_upto_region 5 with ((with_reducible show wpList _ _ _ _ _ _); (refine wpList_store_cell rfl 3 (.tmp 52) (.tmp 50) rfl q 8 _ rfl rfl 96 _ _ HB8.out (by simp [sqC]) rfl (by kernel_rfl) rfl rfl ?_; rintro wA zm zs zb zw; have HZ : Sl _ := ⟨And.intro zm zb⟩; clear zm zs zb zw))
    have HS3 : Sl (SQ wA base o { m with EA := A', ec := c', VE := m.VE.take V.d ++ [((.func (.func fu) #[] au : Value), (.func (.func fv) #[] av : Value))] } { V with E := trim (edX V e), d := (trim (edX V e)).length } ∧ Foot m { m with EA := A', ec := c', VE := m.VE.take V.d ++ [((.func (.func fu) #[] au : Value), (.func (.func fv) #[] av : Value))] } w wA) := ⟨by
      have h := HS2.out.1.pd (w' := wA) (p := V.p) (d := (trim (edX V e)).length) ?_ ?_
      · exact ⟨h.1, HS2.out.2.trans h.2⟩
      · show Blk wA m.q _ _; rw [HQ.out.1, HTK.out]; exact HZ.out.2
      · exact (MvP.of_mv HZ.out.1).mono fun i e => e.trans HQ.out.1.symm⟩
    have HRF : Sl (RunsF base o { m with EA := A', ec := c', VE := m.VE.take V.d ++ [((.func (.func fu) #[] au : Value), (.func (.func fv) #[] av : Value))] } { V with E := trim (edX V e), d := (trim (edX V e)).length } (e.fw V.L) fv av wA) := ⟨by
      have hf : EdF wA m.imm m.q e (.func (.func fu) #[] au) (.func (.func fv) #[] av) := HFF.out.go HS3.out.2.mv (fun i hi ho => H.out.ni i ho hi); obtain ⟨f, args, e1, h⟩ := redo_f (m := { m with EA := A', ec := c', VE := m.VE.take V.d ++ [((.func (.func fu) #[] au : Value), (.func (.func fv) #[] av : Value))] }) HS3.out.1 hf HOK.out HN.out.2.2; injection e1 with e1 _ e2
      injection e1 with e1
      subst e1 e2
      exact h⟩
    clear c7 HZ HB8 HS2; go_wp2_with fail; refine HRF.out.mono ?_; rintro en wB ⟨rfl, FA2, fc2, hsq, hft⟩; have HS4 : Sl _ := ⟨And.intro hsq (HS3.out.2.trans hft)⟩; have HBB : Sl (Blk wB q 96 _) := ⟨by have h := hsq.blk; rw [← HQ.out.1]; exact h⟩; clear hsq hft HRF HS3 hrun; go_wp2_with ((with_reducible show wpList _ _ _ _ _ _); (refine wpList_store_cell rfl 3 (.tmp 58) (.tmp 56) rfl q 6 (.int .i64 (pos : Int)) rfl rfl 96 _ _ HBB.out (by simp [sqC]) rfl (by kernel_rfl) rfl rfl ?_; rintro wC zm zs zb zw; have HZ : Sl _ := ⟨And.intro zm zb⟩; clear zm zs zb zw)); go_end0; have hfin := HS4.out.1.pd (w' := wC) (p := pos) (d := (trim (edX V e)).length) (by show Blk wC m.q _ _; rw [HQ.out.1]; exact HZ.out.2) ((MvP.of_mv HZ.out.1).mono fun i e => e.trans HQ.out.1.symm); refine ⟨rfl, _, ?_, HS4.out.2.trans hfin.2⟩; rw [HDEF.out]; exact hfin.1
theorem own_set {w w' : World} {base g n c size j : Nat} {e : TypeId} {xs : List Value} {v : Value} {cur : Array Value} (h : w.ownsRow base e size (.slice (some ⟨g, 0, none⟩) n c) n xs) (hc : Blk w g e cur) (hB : Blk w' g e (cur.setIfInBounds j v)) :
    w'.ownsRow base e size (.slice (some ⟨g, 0, none⟩) n c) n (xs.set j v) := by
  have hlen := h.1; rcases h.2 with ⟨h0, _⟩ | ⟨g', cap, cur', e1, hb, hh, hcc, hm, hs, ht⟩
  · cases h0
  · injection e1 with a _ c'
    injection a with a
    injection a with a
    subst a c'; have hc2 : w.heap[g]? = some (.cells cur e) := hc; rw [hh] at hc2; injection hc2 with hc2
    injection hc2 with hc2 _
    subst hc2; refine ⟨by rw [List.length_set]; exact hlen, .inr ⟨g, c, _, rfl, hb, hB, hcc, hm, by rw [Array.size_setIfInBounds]; exact hs, ?_⟩⟩; rw [Array.toList_setIfInBounds, ← ht, List.take_set]
theorem own_blk {w : World} {base g n c size : Nat} {e : TypeId} {xs : List Value} (h : w.ownsRow base e size (.slice (some ⟨g, 0, none⟩) n c) n xs) : ∃ cur, Blk w g e cur ∧ n * size ≤ cur.size ∧ ∀ j, j < n * size → cur[j]? = xs[j]? := by
  rcases h.2 with ⟨h0, _⟩ | ⟨g', cap, cur, e1, hb, hh, hcc, hm, hs, ht⟩
  · cases h0
  · injection e1 with a _ c'
    injection a with a
    injection a with a
    subst a c'; exact ⟨cur, hh, by rw [hs]; exact Nat.mul_le_mul_right _ hcc, fun j hj => by rw [← ht, List.getElem?_take_of_lt hj, Array.getElem?_toList]⟩
theorem fm_set : ∀ (L : List (EdV RgV × Value × Value)) (i : Nat) (x : EdV RgV) (y : Value × Value) (a : Nat), L[i]? = some (x, y) → (L.flatMap edC).set (i * 4 + 3) (.int .i64 (a : Int)) = (L.set i (⟨x.e, x.b, a⟩, y)).flatMap edC
  | [], i, x, y, a, h => by simp at h
  | z :: L, 0, x, y, a, h => by
    have h : z = (x, y) := (by simpa using h); subst h; rfl
  | z :: L, i + 1, x, y, a, h => by
    have h : L[i]? = some (x, y) := (by simpa using h); rw [List.set_cons_succ, List.flatMap_cons, List.flatMap_cons, ← fm_set L i x y a h, List.set_append_right _ _ (by show (edC z).length ≤ _; show 4 ≤ _; omega)]; congr 1; show (L.flatMap edC).set ((i + 1) * 4 + 3 - 4) _ = _; rw [show (i + 1) * 4 + 3 - 4 = i * 4 + 3 by omega]
theorem fm_get : ∀ (L : List (EdV RgV × Value × Value)) (i j : Nat) (x : EdV RgV × Value × Value), L[i]? = some x → j < 4 → (L.flatMap edC)[i * 4 + j]? = (edC x)[j]?
  | [], i, j, x, h, _ => by simp at h
  | z :: L, 0, j, x, h, hj => by
    have h : z = x := (by simpa using h); subst h; rw [List.flatMap_cons, Nat.zero_mul, Nat.zero_add, List.getElem?_append_left (by show j < 4; exact hj)]
  | z :: L, i + 1, j, x, h, hj => by
    have h : L[i]? = some x := (by simpa using h); rw [List.flatMap_cons, List.getElem?_append_right (by show 4 ≤ _; omega), ← fm_get L i j x h hj]; congr 1; show (i + 1) * 4 + j - 4 = i * 4 + j; omega
theorem zip_set {α β : Type} (x : α) (y : β) : ∀ (l : List α) (k : List β) (i : Nat), k[i]? = some y → (l.zip k).set i (x, y) = (l.set i x).zip k
  | [], k, i, _ => by simp
  | a :: l, [], i, h => by simp at h
  | a :: l, b :: k, 0, h => by
    have h : b = y := (by simpa using h); subst h; simp
  | a :: l, b :: k, i + 1, h => by
    have h : k[i]? = some y := (by simpa using h); simp [zip_set x y l k i h]
theorem SQ.edit_at {w : World} {base : Nat} {o : SpO} {m : SqM} {V : SqV RgV} (h : SQ w base o m V) {i : Nat} {x : EdV RgV} (hx : V.E[i]? = some x) :
    ∃ g u v, m.EA = some ⟨g, 0, none⟩ ∧ i < V.E.length ∧ V.E.length ≤ m.ec ∧ m.VE[i]? = some (u, v) ∧ EdF w m.imm m.q x.e u v ∧ w.cell? ⟨g, i * 4, none⟩ = some u ∧ w.cell? ⟨g, i * 4 + 1, none⟩ = some v ∧ w.cell? ⟨g, i * 4 + 2, none⟩ = some (.int .i64 (x.b : Int)) ∧ w.cell? ⟨g, i * 4 + 3, none⟩ = some (.int .i64 (x.a : Int)) := by
  have hi := (List.getElem?_eq_some_iff.1 hx).1; have hiv : i < m.VE.length := (by rw [h.vn]; exact hi); obtain ⟨u, v⟩ : Value × Value := m.VE[i]; have hy : m.VE[i]? = some m.VE[i] := List.getElem?_eq_getElem hiv; generalize m.VE[i] = y at hy; obtain ⟨u, v⟩ := y; rcases own_some h.ed with ⟨_, h0, _⟩ | ⟨g, hg, hc, _⟩
  · omega
  have ho := h.ed; rw [hg] at ho; obtain ⟨cur, hB, hs, hc2⟩ := own_blk ho; have hz : (V.E.zip m.VE)[i]? = some (x, (u, v)) := List.getElem?_zip_eq_some.2 ⟨hx, hy⟩
  have hcell : ∀ j, j < 4 → w.cell? ⟨g, i * 4 + j, none⟩ = (edC (x, (u, v)))[j]? := fun j hj => by
    rw [hB.cell, hc2 _ (by omega), fm_get _ _ _ _ hz hj]
  exact ⟨g, u, v, hg, hi, hc, hy, h.ev i x (u, v) hx hy, hcell 0 (by omega), hcell 1 (by omega), hcell 2 (by omega), hcell 3 (by omega)⟩
theorem EdF.fn {w : World} {imm : Nat → Prop} {q : Nat} {e : Ed RgV} {u v : Value} (h : EdF w imm q e u v) : ∃ fu au fv av, u = .func (.func fu) #[] au ∧ v = .func (.func fv) #[] av ∧ (∀ (args : Array Value) (w : World), (callFunc fu args).run Tryz.prog w = .ok (.enter fu args) w) ∧ ∀ (args : Array Value) (w : World), (callFunc fv args).run Tryz.prog w = .ok (.enter fv args) w := by
  cases e with
  | ins a r => obtain ⟨bq, ba, br, i1, i2, i3, rfl, rfl, _⟩ := h; exact ⟨_, _, _, _, rfl, rfl, fun a w => by go_simp, fun a w => by go_simp⟩
  | rep a r o => obtain ⟨bq, ba, br, bo, i1, i2, i3, i4, rfl, rfl, _⟩ := h; exact ⟨_, _, _, _, rfl, rfl, fun a w => by go_simp, fun a w => by go_simp⟩
  | del a o => obtain ⟨bq, ba, bo, i1, i2, i3, rfl, rfl, _⟩ := h; exact ⟨_, _, _, _, rfl, rfl, fun a w => by go_simp, fun a w => by go_simp⟩
theorem qUndo_no (base : Nat) (o : SpO) (m : SqM) (V : SqV RgV) (w : World) (h : SQ w base o m V) (h0 : V.d = 0) :
    Calls Tryz.prog 15 #[ptr m.q] w fun en w' => en = .returned (.int .i64 4) ∧ w' = w := by
  obtain ⟨q, hq⟩ : ∃ q, m.q = q := ⟨_, rfl⟩; have c0 : w.cell? ⟨q, 0, none⟩ = some (.bool true) := (by rw [← hq]; exact h.cell 0 rfl); have c8 : w.cell? ⟨q, 8, none⟩ = some (.int .i64 0) := (by have h8 : w.cell? ⟨m.q, 8, none⟩ = some (.int .i64 (V.d : Int)) := h.cell 8 rfl; rw [h0, hq] at h8; exact h8); rw [hq]; clear h h0 hq; have HC0 : Sl _ := ⟨isq_any q w c0⟩; go_enter Tryz.func15, Tryz.ntmps15; go_wp2_with fail; refine HC0.out.mono ?_; rintro en w1 ⟨rfl, rfl⟩; go_wp2_with fail; go_ret; exact ⟨rfl, rfl⟩
theorem qUndo_any (base : Nat) (o : SpO) (m : SqM) (V : SqV RgV) (k : Nat) (x : EdV RgV) (w : World) (h : SQ w base o m V) (hk : V.d = k + 1) (hx : V.E[k]? = some x) (he : V.E.length ≤ 1000) (hn : V.L.length ≤ 500) (hok : x.e.ko V.L) :
    Calls Tryz.prog 15 #[ptr m.q] w fun en w' => en = .returned (.int .i64 0) ∧ ∃ m', SQ w' base o m' ⟨x.e.bw V.L, x.b, V.E.set k ⟨x.e, x.b, V.p⟩, k⟩ ∧ Foot m m' w w' := by
  have H : Sl _ := ⟨h⟩; have HX : Sl _ := ⟨hx⟩; have HOK : Sl _ := ⟨hok⟩; obtain ⟨g, u, v, hg, hi, hc, hy, hf, e0, e1, e2, e3⟩ := h.edit_at hx; obtain ⟨fu, au, fv, av, rfl, rfl, hrun, _⟩ := hf.fn; have HF : Sl _ := ⟨hf⟩; have HY : Sl _ := ⟨hy⟩; obtain ⟨q, hq⟩ : ∃ q, m.q = q := ⟨_, rfl⟩; obtain ⟨ec, hec⟩ : ∃ ec, m.ec = ec := ⟨_, rfl⟩; obtain ⟨n, hen⟩ : ∃ n, V.E.length = n := ⟨_, rfl⟩; obtain ⟨bp, hbp⟩ : ∃ bp, V.p = bp := ⟨_, rfl⟩; have HQ : Sl (m.q = q ∧ m.EA = some ⟨g, 0, none⟩ ∧ m.ec = ec ∧ V.E.length = n ∧ V.d = k + 1 ∧ V.p = bp) := ⟨⟨hq, hg, hec, hen, hk, hbp⟩⟩; have HN : Sl (k < n ∧ n ≤ 1000 ∧ n ≤ ec ∧ V.L.length ≤ 500) := ⟨⟨by omega, by omega, by omega, hn⟩⟩; have HGQ : Sl (g ≠ q) := ⟨by rw [← hq]; exact own_ne h.ed (blkOf_own.1 ⟨_, hg, rfl⟩) h.blk (by decide)⟩; rw [hq]; have c0 : w.cell? ⟨q, 0, none⟩ = some (.bool true) := (by rw [← hq]; exact h.cell 0 rfl); have c8 : w.cell? ⟨q, 8, none⟩ = some (.int .i64 ((k : Int) + 1)) := (by have h8 : w.cell? ⟨m.q, 8, none⟩ = some (.int .i64 (V.d : Int)) := h.cell 8 rfl; rw [hk, hq] at h8; exact h8); have hkz : (((k : Int) + 1) == 0) = false := (by rw [beq_eq_false_iff_ne]; omega); have hw : IntKind.i64.wrap ((k : Int) + 1 - 1) = (k : Int) := (by rw [IntKind.wrap_i64]; omega); have hn1000 : (n : Int) ≤ 1000 := (by omega); have hkM : (k : Int) < 1000 := (by omega); have HBW : Sl (Blk w q 96 (sqC o m V)) := ⟨by rw [← hq]; exact h.blk⟩; have HC0 : Sl _ := ⟨isq_any q w c0⟩; have hk0 : (0 : Int) ≤ (k : Int) := (by omega); have hkn : (k : Int) < (n : Int) := (by omega); clear h hx he hn hok hg hi hc hy hf e0 e1 e2 e3 hq hec hen hbp hk; go_enter Tryz.func15, Tryz.ntmps15; go_wp2_with fail; refine HC0.out.mono ?_; rintro en w1 ⟨rfl, rfl⟩; clear HC0 c0
  go_upto_region 6 with ((with_reducible show wpList _ _ _ _ _ _); (refine wpList_store_cell rfl 3 (.tmp 19) (.tmp 17) rfl q 8 (.int .i64 (k : Int)) rfl (by first | rfl | go_simp) 96 _ _ HBW.out (by simp [sqC]) rfl (by kernel_rfl) rfl rfl ?_; rintro w2 zm zs zb zw; have HZ : Sl _ := ⟨And.intro zm zb⟩; clear zm zs zb zw))
  clear c8
  have HS2 : Sl (SQ w2 base o m { V with p := V.p, d := k } ∧ Foot m m w1 w2) := ⟨by
    refine H.out.pd ?_ ?_
    · rw [HQ.out.1]; exact HZ.out.2
    · exact (MvP.of_mv HZ.out.1).mono fun i e => e.trans HQ.out.1.symm⟩
  have HB2 : Sl (Blk w2 q 96 (sqC o m { V with p := V.p, d := k })) := ⟨by rw [← HQ.out.1]; exact HS2.out.1.blk⟩; have d7 : w2.cell? ⟨q, 7, none⟩ = some (.slice (some ⟨g, 0, none⟩) n ec) := (by have h := HB2.out.cell 7; have hq := HQ.out; rw [← hq.2.1, ← hq.2.2.1, ← hq.2.2.2.1]; exact h); have d8 : w2.cell? ⟨q, 8, none⟩ = some (.int .i64 (k : Int)) := HB2.out.cell 8; have HD78 : Sl _ := ⟨And.intro d7 d8⟩; have hS0 : w2.drew.cell? ⟨q, 7, none⟩ = some (.slice (some ⟨g, 0, none⟩) n ec) ∧ w2.drew.cell? ⟨q, 8, none⟩ = some (.int .i64 (k : Int)) := ⟨d7, d8⟩; go_wp2_with fail; clear d7 d8; have hm := hS0; refine wp_region_held_drew (S := fun w' => w'.cell? ⟨q, 7, none⟩ = some (.slice (some ⟨g, 0, none⟩) n ec) ∧ w'.cell? ⟨q, 8, none⟩ = some (.int .i64 (k : Int))) (by kernel_rfl) hm (fun hHeld => ?_); clear hm; refine hM 0 (v := ptr q) rfl rfl ?_; simp only [pS]; refine hS 1 (v := ptr q) rfl rfl ?_; simp only [pS]; refine hS 2 (v := .pointer (some ⟨q, 7, none⟩)) rfl rfl ?_; simp only [pS]
  refine hC 3 (v := .slice (some ⟨g, 0, none⟩) n ec) rfl rfl (fun w' h => by
    have hc := h.1
    go_simp) ?_
  simp only [pS]; refine hM 4 (v := ptr q) rfl rfl ?_; simp only [pS]; refine hS 5 (v := ptr q) rfl rfl ?_; simp only [pS]; refine hS 6 (v := .pointer (some ⟨q, 8, none⟩)) rfl rfl ?_; simp only [pS]
  refine hC 7 (v := .int .i64 (k : Int)) rfl rfl (fun w' h => by
    have hc := h.2
    go_simp) ?_
  simp only [pS]; refine hS 8 (v := .pointer (some ⟨g, k * 4, none⟩)) rfl rfl ?_; simp only [pS]; refine hS 9 (v := .pointer (some ⟨g, k * 4, none⟩)) rfl rfl ?_; simp only [pS]; refine wpAnyH_done (by kernel_rfl) ?_ _; clear hHeld hS0; have hb3 : Below w2.heap.size w2 w2.drew := below_drewN (Below.refl _ _) 1; have HS3 : Sl (SQ w2.drew base o m { V with p := V.p, d := k } ∧ Foot m m w1 w2.drew) := ⟨⟨HS2.out.1.below hb3, HS2.out.2.trans (Foot.of_below hb3)⟩⟩; clear hb3 HB2 HD78 HS2; generalize w2.drew = w3 at *
  obtain ⟨g', u', v', hg', _, _, hy', hf', e0, _⟩ := HS3.out.1.edit_at (x := x) HX.out; rw [HY.out] at hy'; injection hy' with hy'
  injection hy' with hu hv
  rw [HQ.out.2.1] at hg'; injection hg' with hg'
  injection hg' with hg' _ _
  subst hu hv hg'
  have HRF : Sl (RunsF base o m { V with p := V.p, d := k } (x.e.bw V.L) fu au w3) := ⟨by
    obtain ⟨f, args, e1, h⟩ := undo_f (m := m) HS3.out.1 hf' HOK.out HN.out.2.2.2; injection e1 with e1 _ e2
    injection e1 with e1
    subst e1 e2
    exact h⟩
  clear hf' hkz hw; go_wp2_with fail; refine HRF.out.mono ?_; rintro en w4 ⟨rfl, FA, fc, hsq, hft⟩; have HS4 : Sl _ := ⟨And.intro hsq (HS3.out.2.trans hft)⟩; clear hsq hft HRF HS3 e0 hrun; obtain ⟨g', u', v', hg', hi, hc, hy', hf', _, _, f2, f3⟩ := HS4.out.1.edit_at (x := x) HX.out; have hg' : m.EA = some ⟨g', 0, none⟩ := hg'; rw [HQ.out.2.1] at hg'; injection hg' with hg'
  injection hg' with hg' _ _
  subst hg'; have hB4 : Blk w4 q 96 (sqC o { m with FA := FA, fc := fc } { V with p := V.p, d := k, L := x.e.bw V.L }) := (by rw [← HQ.out.1]; exact HS4.out.1.blk); have hS0 : Blk w4.drew q 96 (sqC o { m with FA := FA, fc := fc } { V with p := V.p, d := k, L := x.e.bw V.L }) ∧ w4.drew.cell? ⟨g, k * 4 + 2, none⟩ = some (.int .i64 (x.b : Int)) := ⟨hB4, f2⟩; have d6 : w4.cell? ⟨q, 6, none⟩ = some (.int .i64 (bp : Int)) := (by rw [← HQ.out.2.2.2.2.2]; exact hB4.cell 6); have HC6 : Sl (∀ W, Blk W q 96 (sqC o { m with FA := FA, fc := fc } { V with p := V.p, d := k, L := x.e.bw V.L }) → W.cell? ⟨q, 6, none⟩ = some (.int .i64 (bp : Int))) := ⟨fun W hW => by rw [← HQ.out.2.2.2.2.2]; exact hW.cell 6⟩
  have HOW : Sl (w4.ownsRow base 112 4 (.slice (some ⟨g, 0, none⟩) n ec) n ((V.E.zip m.VE).flatMap edC)) := ⟨by
    have h := HS4.out.1.ed; have hq := HQ.out; rw [← hq.2.1, ← hq.2.2.1, ← hq.2.2.2.1]
    exact h⟩
  obtain ⟨cur, hcur, hcs, _⟩ := own_blk HOW.out; have HCUR : Sl _ := ⟨And.intro hcur hcs⟩; clear hi hc hy' hf' hB4 hcur hcs; go_wp2_with fail; clear d6 f2 f3; have hm := hS0; refine wp_region_E (S := fun w' => Blk w' q 96 (sqC o { m with FA := FA, fc := fc } { V with p := V.p, d := k, L := x.e.bw V.L }) ∧ w'.cell? ⟨g, k * 4 + 2, none⟩ = some (.int .i64 (x.b : Int))) 15 (by kernel_rfl) hm (fun hHeld => ?_); clear hm; refine eM 0 (v := .pointer (some ⟨g, k * 4, none⟩)) rfl rfl ?_; simp only [pS]; refine eM 1 (v := ptr q) rfl rfl ?_; simp only [pS]; refine eM 2 (v := ptr q) rfl rfl ?_; simp only [pS]; refine eS 3 (v := ptr q) rfl rfl ?_; simp only [pS]; refine eS 4 (v := .pointer (some ⟨q, 6, none⟩)) rfl rfl ?_; simp only [pS]
  refine eC 5 (v := .int .i64 (bp : Int)) rfl rfl (fun w' h => by
    have hc := HC6.out w' h.1
    go_simp) ?_
  simp only [pS]; refine eM 6 (v := .pointer (some ⟨g, k * 4, none⟩)) rfl rfl ?_; simp only [pS]; refine eS 7 (v := .pointer (some ⟨g, k * 4, none⟩)) rfl rfl ?_; simp only [pS]; refine eS 8 (v := .pointer (some ⟨g, k * 4 + 2, none⟩)) rfl rfl ?_; simp only [pS]
  refine eC 9 (v := .int .i64 (x.b : Int)) rfl rfl (fun w' h => by
    have hc := h.2
    go_simp) ?_
  simp only [pS]; refine eS 10 (v := .pointer (some ⟨g, k * 4, none⟩)) rfl rfl ?_; simp only [pS]; refine eS 11 (v := .pointer (some ⟨g, k * 4 + 3, none⟩)) rfl rfl ?_; simp only [pS]; refine eO 12 rfl rfl fun K hK => ?_; refine wp_store_celm 3 (.tmp 45) (.tmp 39) rfl g (k * 4 + 3) (.int .i64 (bp : Int)) rfl rfl 112 cur _ (show Blk w4.drew g 112 cur from HCUR.out.1) (by have := HCUR.out.2; have := HN.out; omega) rfl (by kernel_rfl) rfl rfl ?_; rintro w5 zm zs zb
  have hS5 : Blk w5 q 96 (sqC o { m with FA := FA, fc := fc } { V with p := V.p, d := k, L := x.e.bw V.L }) ∧ w5.cell? ⟨g, k * 4 + 2, none⟩ = some (.int .i64 (x.b : Int)) := ⟨(MvP.of_mv zm).blk hS0.1 (fun e => HGQ.out e.symm), by
    have h1 : w4.drew.cell? ⟨g, k * 4 + 2, none⟩ = cur[k * 4 + 2]? := (show Blk w4.drew g 112 cur from HCUR.out.1).cell _; rw [zb.cell, Array.getElem?_setIfInBounds_ne (by omega), ← h1]
    exact hS0.2⟩
  have HS5 : Sl (SQ w5 base o { m with FA := FA, fc := fc } { V with p := V.p, d := k, L := x.e.bw V.L, E := V.E.set k ⟨x.e, x.b, V.p⟩ } ∧ Foot m { m with FA := FA, fc := fc } w1 w5) := ⟨by
    have zm2 : Mv g w4 w5 := Mv.trans (Mv.drew g w4) zm; have hl : (V.E.set k ⟨x.e, x.b, V.p⟩).length = n := (by rw [List.length_set]; exact HQ.out.2.2.2.1); have h := HS4.out.1.edits (w' := w5) (EA := m.EA) (ec := m.ec) (E := V.E.set k ⟨x.e, x.b, V.p⟩) (VE := m.VE) ?_ ?_ ?_ ?_ ?_ ?_
    · exact ⟨h.1, HS4.out.2.trans h.2⟩
    · have e : sqC o { m with FA := FA, fc := fc } { V with p := V.p, d := k, L := x.e.bw V.L, E := V.E.set k ⟨x.e, x.b, V.p⟩ } = sqC o { m with FA := FA, fc := fc } { V with p := V.p, d := k, L := x.e.bw V.L } := (by unfold sqC; rw [List.length_set]); show Blk w5 m.q 96 (sqC o { m with FA := FA, fc := fc } { V with p := V.p, d := k, L := x.e.bw V.L, E := V.E.set k ⟨x.e, x.b, V.p⟩ }); rw [e, HQ.out.1]; exact hS5.1
    · have hz := own_set HOW.out HCUR.out.1 zb; have hxz : (V.E.zip m.VE)[k]? = some (x, _) := List.getElem?_zip_eq_some.2 ⟨HX.out, HY.out⟩; rw [← HQ.out.2.2.2.2.2, fm_set _ _ _ _ _ hxz, zip_set _ _ _ _ _ HY.out] at hz; rw [hl, HQ.out.2.1, HQ.out.2.2.1]; exact hz
    · exact (MvP.of_mv zm2).mono fun i e => .inr ⟨_, HQ.out.2.1, e.symm⟩
    · exact fun i hi => .inl hi
    · rw [hl, ← HQ.out.2.2.2.1]; exact HS4.out.1.vn
    · intro i y z hy hz
      by_cases hik : k = i
      · subst hik; rw [List.getElem?_set_self (by have := HN.out; have := HQ.out; omega)] at hy; injection hy with hy
        subst hy; exact HS4.out.1.ev k x z HX.out hz
      · rw [List.getElem?_set_ne hik] at hy
        exact HS4.out.1.ev i y z hy hz⟩
  clear zm zs zb; refine hK.out _ _ (fun _ => hS5) (fun hHeld => ?_); clear hK K hS0 HOW HCUR HS4
  (try simp only [pS])
  refine eS 13 (v := ptr q) rfl rfl ?_; simp only [pS]; refine eS 14 (v := .pointer (some ⟨q, 6, none⟩)) rfl rfl ?_; simp only [pS]; refine eO 15 rfl rfl fun K hK => ?_; refine wp_store_celm 3 (.tmp 47) (.tmp 43) rfl q 6 (.int .i64 (x.b : Int)) rfl rfl 96 _ _ hS5.1 (by simp [sqC]) rfl (by kernel_rfl) rfl rfl ?_; rintro w6 zm zs zb
  have HS6 : Sl (SQ w6 base o { m with FA := FA, fc := fc } ⟨x.e.bw V.L, x.b, V.E.set k ⟨x.e, x.b, V.p⟩, k⟩ ∧ Foot m { m with FA := FA, fc := fc } w1 w6) := ⟨by
    have h := HS5.out.1.pd (w' := w6) (p := x.b) (d := k) ?_ ?_
    · exact ⟨h.1, HS5.out.2.trans h.2⟩
    · have e : sqC o { m with FA := FA, fc := fc } { V with p := V.p, d := k, L := x.e.bw V.L, E := V.E.set k ⟨x.e, x.b, V.p⟩ } = sqC o { m with FA := FA, fc := fc } { V with p := V.p, d := k, L := x.e.bw V.L } := (by unfold sqC; rw [List.length_set]); have e2 : sqC o { m with FA := FA, fc := fc } ⟨x.e.bw V.L, x.b, V.E.set k ⟨x.e, x.b, V.p⟩, k⟩ = (sqC o { m with FA := FA, fc := fc } { V with p := V.p, d := k, L := x.e.bw V.L }).setIfInBounds 6 (.int .i64 (x.b : Int)) := (by rw [← e]; rfl); show Blk w6 m.q 96 (sqC o { m with FA := FA, fc := fc } ⟨x.e.bw V.L, x.b, V.E.set k ⟨x.e, x.b, V.p⟩, k⟩); rw [e2, HQ.out.1]; exact zb
    · exact (MvP.of_mv zm).mono fun i e => e.trans HQ.out.1.symm⟩
  clear zm zs zb hS5; refine hK.out _ _ (fun h => absurd rfl h) (fun hHeld => ?_); clear hK K
  (try simp only [pS])
  refine wpAnyE_done (by kernel_rfl) ?_ _; clear hHeld; go_wp2_with fail; go_ret; exact ⟨rfl, _, HS6.out⟩
theorem qRedo_any (base : Nat) (o : SpO) (m : SqM) (V : SqV RgV) (k : Nat) (x : EdV RgV) (w : World) (h : SQ w base o m V) (hk : V.d = k) (hx : V.E[k]? = some x) (he : V.E.length ≤ 1000) (hn : V.L.length ≤ 500) (hok : x.e.ok V.L) :
    Calls Tryz.prog 32 #[ptr m.q] w fun en w' => en = .returned (.int .i64 0) ∧ ∃ m', SQ w' base o m' ⟨x.e.fw V.L, x.a, V.E, k + 1⟩ ∧ Foot m m' w w' := by
  have H : Sl _ := ⟨h⟩; have HX : Sl _ := ⟨hx⟩; have HOK : Sl _ := ⟨hok⟩; obtain ⟨g, u, v, hg, hi, hc, hy, hf, e0, e1, e2, e3⟩ := h.edit_at hx; obtain ⟨fu, au, fv, av, rfl, rfl, _, hrun⟩ := hf.fn; have HY : Sl _ := ⟨hy⟩; obtain ⟨q, hq⟩ : ∃ q, m.q = q := ⟨_, rfl⟩; obtain ⟨ec, hec⟩ : ∃ ec, m.ec = ec := ⟨_, rfl⟩; obtain ⟨n, hen⟩ : ∃ n, V.E.length = n := ⟨_, rfl⟩; have HQ : Sl (m.q = q ∧ m.EA = some ⟨g, 0, none⟩ ∧ m.ec = ec ∧ V.E.length = n ∧ V.d = k) := ⟨⟨hq, hg, hec, hen, hk⟩⟩; have HN : Sl (k < n ∧ n ≤ 1000 ∧ n ≤ ec ∧ V.L.length ≤ 500) := ⟨⟨by omega, by omega, by omega, hn⟩⟩; have HGQ : Sl (g ≠ q) := ⟨by rw [← hq]; exact own_ne h.ed (blkOf_own.1 ⟨_, hg, rfl⟩) h.blk (by decide)⟩; rw [hq]; have c0 : w.cell? ⟨q, 0, none⟩ = some (.bool true) := (by rw [← hq]; exact h.cell 0 rfl); have c8 : w.cell? ⟨q, 8, none⟩ = some (.int .i64 (k : Int)) := (by have h8 : w.cell? ⟨m.q, 8, none⟩ = some (.int .i64 (V.d : Int)) := h.cell 8 rfl; rw [hk, hq] at h8; exact h8); have c7 : w.cell? ⟨q, 7, none⟩ = some (.slice (some ⟨g, 0, none⟩) n ec) := (by rw [← hq, ← hg, ← hec, ← hen]; exact h.cell 7 rfl); have hkz : ((k : Int) == (n : Int)) = false := (by rw [beq_eq_false_iff_ne]; omega); have hn1000 : (n : Int) ≤ 1000 := (by omega); have HC0 : Sl _ := ⟨isq_any q w c0⟩; have hk0 : (0 : Int) ≤ (k : Int) := (by omega); have hkn : (k : Int) < (n : Int) := (by omega); have hkM : (k : Int) < 1000 := (by omega); clear h hx he hn hok hg hi hc hy hf e0 e1 e2 e3 hq hec hen hk; go_enter Tryz.func32, Tryz.ntmps32; go_wp2_with fail; refine HC0.out.mono ?_; rintro en w1 ⟨rfl, rfl⟩; clear HC0 c0; have hS0 : w1.drew.cell? ⟨q, 7, none⟩ = some (.slice (some ⟨g, 0, none⟩) n ec) ∧ w1.drew.cell? ⟨q, 8, none⟩ = some (.int .i64 (k : Int)) := ⟨c7, c8⟩; go_wp2_with fail; clear c7 c8; have hm := hS0; refine wp_region_held_drew (S := fun w' => w'.cell? ⟨q, 7, none⟩ = some (.slice (some ⟨g, 0, none⟩) n ec) ∧ w'.cell? ⟨q, 8, none⟩ = some (.int .i64 (k : Int))) (by kernel_rfl) hm (fun hHeld => ?_); clear hm; refine hM 0 (v := ptr q) rfl rfl ?_; simp only [pS]; refine hS 1 (v := ptr q) rfl rfl ?_; simp only [pS]; refine hS 2 (v := .pointer (some ⟨q, 8, none⟩)) rfl rfl ?_; simp only [pS]
  refine hC 3 (v := .int .i64 (k : Int)) rfl rfl (fun w' h => by
    have hc := h.2
    go_simp) ?_
  simp only [pS]; refine hM 4 (v := ptr q) rfl rfl ?_; simp only [pS]; refine hS 5 (v := ptr q) rfl rfl ?_; simp only [pS]; refine hS 6 (v := .pointer (some ⟨q, 7, none⟩)) rfl rfl ?_; simp only [pS]
  refine hC 7 (v := .slice (some ⟨g, 0, none⟩) n ec) rfl rfl (fun w' h => by
    have hc := h.1
    go_simp) ?_
  simp only [pS]; refine hS 8 (v := .int .i64 (n : Int)) rfl rfl ?_; simp only [pS]; refine hS 9 (v := .bool false) rfl rfl ?_; simp only [pS]; refine hS 10 (v := .bool false) rfl rfl ?_; simp only [pS]; refine wpAnyH_done (by kernel_rfl) ?_ _; clear hHeld; have hb1 : Below w1.heap.size w1 w1.drew := below_drewN (Below.refl _ _) 1; have HS1 : Sl (SQ w1.drew base o m V ∧ Foot m m w1 w1.drew) := ⟨⟨H.out.below hb1, Foot.of_below hb1⟩⟩; clear hb1; obtain ⟨d7, d8⟩ := hS0; generalize w1.drew = w2 at *
  have hS0 : w2.drew.cell? ⟨q, 7, none⟩ = some (.slice (some ⟨g, 0, none⟩) n ec) ∧ w2.drew.cell? ⟨q, 8, none⟩ = some (.int .i64 (k : Int)) := ⟨d7, d8⟩; go_wp2_with fail; clear d7 d8; have hm := hS0; refine wp_region_held_drew (S := fun w' => w'.cell? ⟨q, 7, none⟩ = some (.slice (some ⟨g, 0, none⟩) n ec) ∧ w'.cell? ⟨q, 8, none⟩ = some (.int .i64 (k : Int))) (by kernel_rfl) hm (fun hHeld => ?_); clear hm; refine hM 0 (v := ptr q) rfl rfl ?_; simp only [pS]; refine hS 1 (v := ptr q) rfl rfl ?_; simp only [pS]; refine hS 2 (v := .pointer (some ⟨q, 7, none⟩)) rfl rfl ?_; simp only [pS]
  refine hC 3 (v := .slice (some ⟨g, 0, none⟩) n ec) rfl rfl (fun w' h => by
    have hc := h.1
    go_simp) ?_
  simp only [pS]; refine hM 4 (v := ptr q) rfl rfl ?_; simp only [pS]; refine hS 5 (v := ptr q) rfl rfl ?_; simp only [pS]; refine hS 6 (v := .pointer (some ⟨q, 8, none⟩)) rfl rfl ?_; simp only [pS]
  refine hC 7 (v := .int .i64 (k : Int)) rfl rfl (fun w' h => by
    have hc := h.2
    go_simp) ?_
  simp only [pS]; refine hS 8 (v := .pointer (some ⟨g, k * 4, none⟩)) rfl rfl ?_; simp only [pS]; refine hS 9 (v := .pointer (some ⟨g, k * 4, none⟩)) rfl rfl ?_; simp only [pS]; refine wpAnyH_done (by kernel_rfl) ?_ _; clear hHeld hS0; have hb3 : Below w2.heap.size w2 w2.drew := below_drewN (Below.refl _ _) 1; have HS3 : Sl (SQ w2.drew base o m V ∧ Foot m m w1 w2.drew) := ⟨⟨HS1.out.1.below hb3, HS1.out.2.trans (Foot.of_below hb3)⟩⟩; clear hb3 HS1; generalize w2.drew = w3 at *
  obtain ⟨g', u', v', hg', _, _, hy', hf', _, e1, _⟩ := HS3.out.1.edit_at (x := x) HX.out; rw [HY.out] at hy'; injection hy' with hy'
  injection hy' with hu hv
  rw [HQ.out.2.1] at hg'; injection hg' with hg'
  injection hg' with hg' _ _
  subst hu hv hg'
  have HRF : Sl (RunsF base o m V (x.e.fw V.L) fv av w3) := ⟨by
    obtain ⟨f, args, e1, h⟩ := redo_f (m := m) HS3.out.1 hf' HOK.out HN.out.2.2.2; injection e1 with e1 _ e2
    injection e1 with e1
    subst e1 e2
    exact h⟩
  clear hf' hkz; go_wp2_with fail; refine HRF.out.mono ?_; rintro en w4 ⟨rfl, FA, fc, hsq, hft⟩; have HS4 : Sl _ := ⟨And.intro hsq (HS3.out.2.trans hft)⟩; clear hsq hft HRF HS3 e1 hrun; obtain ⟨g', u', v', hg', _, _, _, _, _, _, _, f3⟩ := HS4.out.1.edit_at (x := x) HX.out; have hg' : m.EA = some ⟨g', 0, none⟩ := hg'; rw [HQ.out.2.1] at hg'; injection hg' with hg'
  injection hg' with hg' _ _
  subst hg'; have HB4 : Sl (Blk w4 q 96 (sqC o { m with FA := FA, fc := fc } { V with L := x.e.fw V.L })) := ⟨by rw [← HQ.out.1]; exact HS4.out.1.blk⟩
  go_upto_region 8 with ((with_reducible show wpList _ _ _ _ _ _); (refine wpList_store_cell rfl 3 (.tmp 38) (.tmp 36) rfl q 6 (.int .i64 (x.a : Int)) rfl rfl 96 _ _ HB4.out (by simp [sqC]) rfl (by kernel_rfl) rfl rfl ?_; rintro w5 zm zs zb zw; have HZ : Sl _ := ⟨And.intro zm zb⟩; clear zm zs zb zw))
  have HS5 : Sl (SQ w5 base o { m with FA := FA, fc := fc } { V with L := x.e.fw V.L, p := x.a, d := V.d } ∧ Foot m { m with FA := FA, fc := fc } w1 w5) := ⟨by
    have h := HS4.out.1.pd (w' := w5) (p := x.a) (d := V.d) ?_ ?_
    · exact ⟨h.1, HS4.out.2.trans h.2⟩
    · show Blk w5 m.q 96 _; rw [HQ.out.1]; exact HZ.out.2
    · exact (MvP.of_mv HZ.out.1).mono fun i e => e.trans HQ.out.1.symm⟩
  have HB5 : Sl (Blk w5 q 96 (sqC o { m with FA := FA, fc := fc } { V with L := x.e.fw V.L, p := x.a, d := V.d })) := ⟨by rw [← HQ.out.1]; exact HS5.out.1.blk⟩; have d8 : w5.cell? ⟨q, 8, none⟩ = some (.int .i64 (k : Int)) := (by rw [← HQ.out.2.2.2.2]; exact HB5.out.cell 8); clear f3 HZ HS4 HB4; go_wp2_with ((with_reducible show wpList _ _ _ _ _ _); (refine wpList_store_cell rfl 3 (.tmp 45) (.tmp 43) rfl q 8 (.int .i64 ((k : Int) + 1)) rfl (by first | rfl | go_simp) 96 _ _ HB5.out (by simp [sqC]) rfl (by kernel_rfl) rfl rfl ?_; rintro w6 zm zs zb zw; have HZ : Sl _ := ⟨And.intro zm zb⟩; clear zm zs zb zw)); go_ret; have h := HS5.out.1.pd (w' := w6) (p := x.a) (d := k + 1) (by show Blk w6 m.q 96 _; rw [HQ.out.1]; exact HZ.out.2) ((MvP.of_mv HZ.out.1).mono fun i e => e.trans HQ.out.1.symm); exact ⟨rfl, _, h.1, HS5.out.2.trans h.2⟩
end Go.Proofs.YtabkpbbjodfolaaGreatDoor
