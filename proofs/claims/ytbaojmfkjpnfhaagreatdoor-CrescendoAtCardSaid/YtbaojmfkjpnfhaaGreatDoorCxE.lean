/- Rows of integers of a call's own: append, slices.Sort, slices.Compact; package crescendo: both. -/
import Derived.Test.YtbaojmfkjpnfhaaGreatDoorCxD
import Derived.Sort.OwnSortedInts
namespace Go.Proofs.YtbaojmfkjpnfhaaGreatDoor
set_option linter.unusedSimpArgs false
open Go.RowKit
set_option linter.unusedVariables false

theorem grown_of_mv {w w' : World} {g : Nat} (hm : Mv g w w') : w.grownBy w' (some g) := ⟨hm.os, hm.tape, hm.output, hm.size, fun k hk hne => hm.block k hk (fun e => hne (by rw [e]))⟩
theorem grown_of_below {w w' : World} {row : Option Nat} (hb : Below w.heap.size w w') : w.grownBy w' row := ⟨hb.os, hb.tape, hb.output, hb.size, fun k hk _ => hb.block k hk⟩
theorem below_grown {B : Nat} {w0 w w' : World} {row : Option Nat} (h : Below B w0 w) (hg : w.grownBy w' row) (hB : B ≤ w.heap.size) (hr : ∀ k, row = some k → B ≤ k) : Below B w0 w' := by
  obtain ⟨h1, h2, h3, h4, h5⟩ := hg
  exact ⟨h1.trans h.os, h2.trans h.tape, h3.trans h.output, Nat.le_trans h.size h4, fun k hk => (h5 k (by omega) (fun e => by have := hr k e.symm; omega)).trans (h.block k hk)⟩
theorem blk_grown {w w' : World} {row : Option Nat} {g : Nat} {t : TypeId} {cs : Array Value} (h : Blk w g t cs) (hg : w.grownBy w' row) (hne : row ≠ some g) : Blk w' g t cs := (hg.block g h.lt (fun e => hne e.symm)).trans h
theorem Lg.grown {b w w' : World} {row : Option Nat} {l : List (Nat × TypeId × Array Value)} (h : Lg b w l) (hg : w.grownBy w' row) (hr : ∀ k, row = some k → b.heap.size ≤ k) (hne : ∀ p ∈ l, row ≠ some p.1) : Lg b w' l :=
  ⟨⟨below_grown h.bl hg h.bl.size hr, fun p hp => blk_grown (h.ld.all p hp) hg (hne p hp), h.ld.ge⟩, h.nd⟩
theorem Lg.set {w W W' : World} {l : List (Nat × TypeId × Array Value)} (h : Lg w W l) (k : Nat) {g : Nat} {t t' : TypeId} {cs cs' : Array Value} (hk : l[k]? = some (g, t, cs)) (hm : Mv g W W') (zb : Blk W' g t' cs') : Lg w W' (l.set k (g, t', cs')) := by
  induction l generalizing k with
  | nil => cases hk
  | cons p l ih =>
    cases k with
    | zero =>
      have e : p = (g, t, cs) := by simpa using hk
      subst e
      exact h.upd hm zb
    | succ k =>
      have hk1 : l[k]? = some (g, t, cs) := by simpa using hk
      have h1 := ih h.drop k hk1
      have hne : p.1 ≠ g := fun e => (List.nodup_cons.1 h.nd).1 (by rw [e]; exact List.mem_map.2 ⟨_, List.mem_of_getElem? hk1, rfl⟩)
      rw [List.set_cons_succ]
      refine ⟨⟨h1.ld.bl, fun q hq => ?_, fun q hq => ?_⟩, ?_⟩
      · rcases List.mem_cons.1 hq with rfl | hq
        · exact (h.ld.all q List.mem_cons_self).mv hm hne
        · exact h1.ld.all q hq
      · rcases List.mem_cons.1 hq with rfl | hq
        · exact h.ld.ge q List.mem_cons_self
        · exact h1.ld.ge q hq
      · have e : (l.set k (g, t', cs')).map Prod.fst = l.map Prod.fst := by
          rw [List.map_set]
          apply List.ext_getElem?
          intro i
          by_cases hi : i = k
          · subst hi
            rw [List.getElem?_set_self (by rw [List.length_map]; exact (List.getElem?_eq_some_iff.1 hk1).1), List.getElem?_map, hk1]
            rfl
          · rw [List.getElem?_set_ne (fun e => hi e.symm)]
        rw [List.map_cons, e]
        exact h.nd
theorem OI.grown {w w' : World} {row : Option Nat} {base : Nat} {A : Option Addr} {n c : Nat} {l : List Int} (h : OI w base A n c l) (hg : w.grownBy w' row) (hne : ∀ k, (Value.slice A n c).ownBlock = some k → row ≠ some k) : OI w' base A n c l := by
  refine World.ownsRow.kept h hg ?_
  cases hb : (Value.slice A n c).ownBlock with
  | none => exact .inl rfl
  | some k => exact .inr (fun e => hne k hb e.symm)
theorem OI.ne_blk {w : World} {base : Nat} {A : Option Addr} {n c : Nat} {l : List Int} {g : Nat} {t : TypeId} {cs : Array Value} (h : OI w base A n c l) (hB : Blk w g t cs) (ht : 3 ≠ t) : (Value.slice A n c).ownBlock ≠ some g := own_blk_ne h hB ht
theorem OI.nil (w : World) (base : Nat) : OI w base none 0 0 [] := World.ownsRow_nil _ _ _ _
/-- a row of integers is appended to one of the call's own -/
theorem wpList_append_oi {ops : Array Oper} {rest : List Oper} {o : Oper} {a : Act} {w : World} {Q : Exit → Act → World → Prop} (hgd : o.guard = none) (s x : Operand)
    (ho : o.op = .call { callee := .builtin .append, args := #[s, x], argTypes := #[31, 31] })
    (base : Nat) (A : Option Addr) (n c : Nat) (l : List Int) (hs : a.eval s = .slice A n c) (hown : OI w base A n c l)
    (B : Option Addr) (m d : Nat) (k : List Int) (hx : a.eval x = .slice B m d) (hr : II w B m k) (hnm : n + m ≤ 1000000) (hbase : base ≤ w.heap.size)
    (h : ∀ A' c' w', OI w' base A' (n + m) c' (l ++ k) → w.grownBy w' (Value.slice A n c).ownBlock → ((Value.slice A' (n + m) c').ownBlock = (Value.slice A n c).ownBlock ∨ (Value.slice A' (n + m) c').ownBlock = some w.heap.size) → wpList Tryz.prog ops Q rest (a.put o.dst (.slice A' (n + m) c')) w') :
    wpList Tryz.prog ops Q (o :: rest) a w := by
  obtain ⟨i, h1, h2, h3, h4⟩ := infoInt
  refine wpList_append_any w hgd s x _ ho base 3 i _ 1 8 Tryz.underlying31 h1 h2 h3 h4 rfl (by decide) _ n _ hs hown w.heap.size B m d (k.map iv) hx hr.2 (fun u hu => ?_) (by unfold maxLen; omega) (by omega) hbase (fun v' w' h5 h6 h7 => ?_)
  · obtain ⟨z, _, rfl⟩ := List.mem_map.1 hu
    rfl
  · rw [← List.map_append] at h5
    rcases h5.2 with ⟨rfl, h0⟩ | ⟨g, cap, cur, rfl, _⟩
    · have hn0 : n + m = 0 := h0
      have e : Value.slice none 0 0 = Value.slice none (n + m) 0 := by rw [hn0]
      rw [e] at h5 h7 ⊢
      exact h _ _ _ h5 h6 h7
    · exact h _ _ _ h5 h6 h7
/-- slices.Sort -/
def srtI (l : List Int) : List Int := l.mergeSort fun x y => decide (x ≤ y)
theorem srtI_len (l : List Int) : (srtI l).length = l.length := (List.mergeSort_perm l _).length_eq
theorem oi_none {w : World} {base : Nat} {n c : Nat} {l : List Int} (h : OI w base none n c l) : n = 0 ∧ l = [] := by
  have h1 : n = 0 := by
    rcases h.2 with ⟨h0, _⟩ | ⟨b, cap, cur, e1, _⟩
    · injection h0
    · injection e1 with a; cases a
  subst h1
  exact ⟨rfl, List.eq_nil_of_length_eq_zero h.len⟩
theorem sortOI {w : World} {base : Nat} {A : Option Addr} {n c : Nat} {l : List Int} (h : OI w base A n c l) (hn : n ≤ 1000000) :
    Calls Tryz.prog 49 #[.slice A n c] w fun e w' => e = .returned (.tuple #[]) ∧ OI w' base A n c (srtI l) ∧ w.grownBy w' (Value.slice A n c).ownBlock := by
  have hl := h.len
  rcases Nat.eq_zero_or_pos n with h0 | h0
  · subst h0
    have hl0 : l = [] := List.eq_nil_of_length_eq_zero hl
    subst hl0
    refine (Tryz.slices_Sort_int_none A c w).mono fun e w' hh => ?_
    obtain ⟨rfl, rfl⟩ := hh
    exact ⟨rfl, by rw [show srtI [] = [] by simp [srtI]]; exact h, World.grownBy.refl _ _⟩
  · obtain ⟨hl2, h1 | ⟨g, cap, cur, e1, hbg, hh, hnc, hcm, hcs, htake⟩⟩ := h
    · exact absurd h1.1 (by intro e; injection e with _ e2; omega)
    · injection e1 with e1 e2 e3
      subst e1 e3
      rw [Nat.mul_one] at htake
      have hlt : g < w.heap.size := (Array.getElem?_eq_some_iff.1 hh).1
      subst hl
      refine (Tryz.slices_Sort_int g 0 c l w (holds_of_blockI hh htake) hlt (by omega)).mono fun e w' h => ?_
      obtain ⟨h1, n, os, rfl⟩ := h
      exact ⟨h1, ownsRow_sortedI (n := n) (os := os) (ts := srtI l) (srtI_len l) hbg hh hnc hcm hcs, grownBy_sortedI _⟩
/-- slices.Compact -/
theorem compactOI {w : World} {base : Nat} {A : Option Addr} {n c : Nat} {l : List Int} (h : OI w base A n c l) (hn : n ≤ 1000000) :
    Calls Tryz.prog 50 #[.slice A n c] w fun e w' => e = .returned (.slice A (Lib.compact l).length c) ∧ II w' A (Lib.compact l).length (Lib.compact l) ∧ (Lib.compact l).length ≤ n ∧ w.grownBy w' (Value.slice A n c).ownBlock := by
  have hl := h.len
  have hcl := Lib.compact_length_le l
  rcases Nat.eq_zero_or_pos n with h0 | h0
  · subst h0
    have hl0 : l = [] := List.eq_nil_of_length_eq_zero hl
    subst hl0
    refine (Tryz.slices_Compact_int_empty A c w).mono fun e w' hh => ?_
    obtain ⟨rfl, rfl⟩ := hh
    exact ⟨rfl, II.nil _ _, Nat.le_refl _, World.grownBy.refl _ _⟩
  · obtain ⟨g, hA⟩ : ∃ g, A = some ⟨g, 0, none⟩ := by
      rcases h.2 with ⟨h1, _⟩ | ⟨g, cap, cur, e1, _⟩
      · exact absurd h1 (by intro e; injection e with _ e2; omega)
      · injection e1 with e1; exact ⟨g, e1⟩
    subst hA
    have hown : w.ownsRow base 3 1 (.slice (some ⟨g, 0, none⟩) n c) n (l.map iv) := h
    have hco := Tryz.slices_Compact_int_cells g 0 n c l w (by omega) (by omega) h.cap.1 (fun j hj => by
      rw [Nat.zero_add, hown.cellAt j (by omega), List.getElem?_map, List.getElem?_eq_getElem hj]
      simp [iv, List.getD, List.getElem?_eq_getElem hj]) (fun j hj => by rw [Nat.zero_add]; exact hown.frozenAt j)
    rw [List.take_of_length_le (by omega)] at hco
    obtain ⟨cur, t, hB⟩ : ∃ cur t, Blk w g t cur ∧ n ≤ cur.size := by
      rcases h.2 with ⟨h1, _⟩ | ⟨g', cap, cur, e1, _, hh, hnc, hcm, hcs, _⟩
      · cases h1
      · injection e1 with e1; injection e1 with e1; injection e1 with e1; subst e1
        exact ⟨cur, _, hh, by omega⟩
    refine hco.mono fun e w' hh => ?_
    obtain ⟨rfl, q, rfl⟩ := hh
    have hB2 := Blk.setCells (w := w) ((Lib.compact l ++ List.replicate (n - (Lib.compact l).length) 0).map (Value.int .i64)) 0 (w.drewN q) cur (hB.1.drewN q)
    refine ⟨rfl, ⟨rfl, by simp, fun hp => ⟨⟨g, 0, none⟩, rfl, hB2.lt, fun j u hu => ?_⟩⟩, by omega, grown_of_mv (Mv.trans (Mv.drewN (Mv.refl g w) q) (Mv.setCells _ _ _ _))⟩
    rw [Addr.add_mid, Nat.zero_add, hB2.cell j]
    have hj : j < (Lib.compact l).length := by have := (List.getElem?_eq_some_iff.1 hu).1; simpa using this
    rw [putA_get _ _ _ _ (by simp; omega), if_pos ⟨Nat.zero_le _, by simp; omega⟩, Nat.sub_zero, List.map_append, List.getElem?_append_left (by simpa using hj)]
    exact hu
/-- the error of a table, then that of a registration -/
def botE (o : SpO) (L : List RgV) (r : RgV) : Int := if tabE o L = 0 then regE o r else tabE o L
set_option maxHeartbeats 3200000 in
set_option maxRecDepth 100000 in
theorem both_any (o : SpO) (T : Option Addr) (n c : Nat) (L : List RgV) (r : RgV) (w : World) (hM : SpM w o) (hF : SpF o) (hT : TbM w T n c L) (hr : RgM w r) :
    Calls Tryz.prog 47 #[.agg #[.slice o.A1 o.n1 o.c1, .slice o.A2 o.n2 o.c2, .slice o.A3 o.n3 o.c3, .slice o.A4 o.n4 o.c4], .agg #[.slice T n c], .agg #[.slice r.A r.n r.c, .slice r.B r.m r.d]] w fun e w' => e = .returned (.int .i64 (botE o L r)) ∧ Below w.heap.size w w' := by
  have HE : Sl (botE o L r = if tabE o L = 0 then regE o r else tabE o L) := ⟨rfl⟩
  have hb1 := (Below.refl w.heap.size w).alloc (Nat.le_refl _) (.cells #[.slice o.A1 o.n1 o.c1, .slice o.A2 o.n2 o.c2, .slice o.A3 o.n3 o.c3, .slice o.A4 o.n4 o.c4] 27)
  have hb2 := hb1.alloc hb1.size (.cells #[.slice T n c] 30)
  have hb3 := hb2.alloc hb2.size (.cells #[.slice r.A r.n r.c, .slice r.B r.m r.d] 33)
  have HB : Sl _ := ⟨hb3⟩
  have H1 : Sl _ := ⟨fun (W : World) (hW : Below w.heap.size w W) => crCheck_any o T n c L W (hM.below hW) hF (hT.below hW)⟩
  have H2 : Sl _ := ⟨fun (W : World) (hW : Below w.heap.size w W) => registration_any o r W (hr.below hW) hF⟩
  have S1 := ((Blk.new w 27 #[.slice o.A1 o.n1 o.c1, .slice o.A2 o.n2 o.c2, .slice o.A3 o.n3 o.c3, .slice o.A4 o.n4 o.c4]).alloc (.cells #[.slice T n c] 30)).alloc (.cells #[.slice r.A r.n r.c, .slice r.B r.m r.d] 33)
  have R1 := Blk.new ((w.alloc (.cells #[.slice o.A1 o.n1 o.c1, .slice o.A2 o.n2 o.c2, .slice o.A3 o.n3 o.c3, .slice o.A4 o.n4 o.c4] 27)).alloc (.cells #[.slice T n c] 30)) 33 #[.slice r.A r.n r.c, .slice r.B r.m r.d]
  rw [show ((w.alloc (.cells #[.slice o.A1 o.n1 o.c1, .slice o.A2 o.n2 o.c2, .slice o.A3 o.n3 o.c3, .slice o.A4 o.n4 o.c4] 27)).alloc (.cells #[.slice T n c] 30)).heap.size = w.heap.size + 1 + 1 by simp] at R1
  have HS1 : Sl _ := ⟨S1⟩
  have HR1 : Sl _ := ⟨R1⟩
  obtain ⟨t, ht⟩ : ∃ t, tabE o L = t := ⟨_, rfl⟩
  obtain ⟨g, hg⟩ : ∃ g, regE o r = g := ⟨_, rfl⟩
  obtain ⟨v, hv⟩ : ∃ v, botE o L r = v := ⟨_, rfl⟩
  rw [ht] at HE H1
  rw [hg] at HE H2
  rw [hv] at HE ⊢
  clear hb1 hb2 hb3 hM hF hT hr ht hg hv S1 R1
  go_enter Tryz.func47, Tryz.ntmps47
  go_wp2_with fail
  generalize ((w.alloc (.cells #[.slice o.A1 o.n1 o.c1, .slice o.A2 o.n2 o.c2, .slice o.A3 o.n3 o.c3, .slice o.A4 o.n4 o.c4] 27)).alloc (.cells #[.slice T n c] 30)).alloc (.cells #[.slice r.A r.n r.c, .slice r.B r.m r.d] 33) = wa at *
  refine (H1.out _ HB.out).mono ?_; rintro e w1 ⟨rfl, hb⟩
  have HB1 : Sl _ := ⟨HB.out.trans (hb.mono HB.out.size)⟩
  replace HS1 : Sl _ := ⟨HS1.out.below hb HS1.out.lt⟩
  replace HR1 : Sl _ := ⟨HR1.out.below hb HR1.out.lt⟩
  clear hb HB
  by_cases ht0 : t = 0
  · subst ht0
    rw [if_pos rfl] at HE
    have s0 := HS1.out.cell 0
    have s1 := HS1.out.cell 1
    have s2 := HS1.out.cell 2
    have s3 := HS1.out.cell 3
    have r0 := HR1.out.cell 0
    have r1 := HR1.out.cell 1
    simp at s0 s1 s2 s3 r0 r1
    go_wp2_with fail
    refine (H2.out _ HB1.out).mono ?_; rintro e w2 ⟨rfl, hb⟩
    have HB2 : Sl _ := ⟨HB1.out.trans (hb.mono HB1.out.size)⟩
    clear hb
    go_wp2_with fail
    go_ret
    exact ⟨by rw [HE.out]; rfl, HB2.out⟩
  · rw [if_neg ht0] at HE
    have q0 : (t != 0) = true := by rw [bne_iff_ne]; exact ht0
    clear ht0
    go_wp2_with fail
    go_ret
    exact ⟨by rw [HE.out]; rfl, HB1.out⟩
end Go.Proofs.YtbaojmfkjpnfhaaGreatDoor
