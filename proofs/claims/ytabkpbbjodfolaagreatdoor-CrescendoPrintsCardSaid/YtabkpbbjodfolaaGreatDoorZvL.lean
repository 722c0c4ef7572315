/- Package crescendo: stopsOf, couplersOf, steps. (Printed by gencxc.py.) -/
import Derived.Test.YtabkpbbjodfolaaGreatDoorZvK
namespace Go.Proofs.YtabkpbbjodfolaaGreatDoor
set_option linter.unusedSimpArgs false
open Go.RowKit
set_option linter.unusedVariables false
def IRow (w : World) (g n : Nat) (f : Nat → Int) : Prop := ∃ (t : TypeId) (cs : Array Value), Blk w g t cs ∧ n ≤ cs.size ∧ ∀ j, j < n → cs[j]? = some (.int .i64 (f j))
theorem IRow.lt {w : World} {g n : Nat} {f : Nat → Int} (h : IRow w g n f) : g < w.heap.size := by
  obtain ⟨t, cs, hB, _⟩ := h; exact hB.lt
theorem IRow.cell {w : World} {g n : Nat} {f : Nat → Int} (h : IRow w g n f) {j : Nat} (hj : j < n) : w.cell? ⟨g, j, none⟩ = some (.int .i64 (f j)) := by
  obtain ⟨t, cs, hB, _, hc⟩ := h; rw [hB.cell, hc j hj]
theorem IRow.frozen {w : World} {g n : Nat} {f : Nat → Int} (h : IRow w g n f) (j : Nat) : w.frozen? ⟨g, j, none⟩ = false := by
  obtain ⟨t, cs, hB, _⟩ := h; exact hB.frozen j
theorem IRow.mv {w w' : World} {b g n : Nat} {f : Nat → Int} (h : IRow w b n f) (hm : Mv g w w') (hne : b ≠ g) : IRow w' b n f := by
  obtain ⟨t, cs, hB, h1, h2⟩ := h; exact ⟨t, cs, hB.mv hm hne, h1, h2⟩
theorem IRow.below {w w' : World} {B g n : Nat} {f : Nat → Int} (h : IRow w g n f) (hb : Below B w w') (hg : g < B) : IRow w' g n f := by
  obtain ⟨t, cs, hB, h1, h2⟩ := h; exact ⟨t, cs, hB.below hb hg, h1, h2⟩
theorem IRow.set {w : World} {g n : Nat} {f : Nat → Int} (h : IRow w g n f) {i : Nat} (x : Int) : IRow (w.setCell ⟨g, i, none⟩ (.int .i64 x)) g n (fun k => if k = i then x else f k) := by
  obtain ⟨t, cs, hB, h1, h2⟩ := h; refine ⟨t, _, hB.set_ i _, by simpa using h1, fun j hj => ?_⟩
  by_cases hji : j = i
  · subst hji; rw [Array.getElem?_setIfInBounds_self_of_lt (by omega)]; simp
  · rw [Array.getElem?_setIfInBounds_ne (fun h => hji h.symm)]; simp only [hji, if_false]; exact h2 j hj
theorem IRow.congr {w : World} {g n : Nat} {f e : Nat → Int} (h : IRow w g n f) (he : ∀ j, j < n → f j = e j) : IRow w g n e := by
  obtain ⟨t, cs, hB, h1, h2⟩ := h; exact ⟨t, cs, hB, h1, fun j hj => by rw [← he j hj]; exact h2 j hj⟩
abbrev StS := (Nat → Int) × Int
def stU (i : Nat) (s : StS) (x : Int) : StS := (fun k => if k = x.toNat then (i : Int) + 1 else s.1 k, if 0 < s.1 x.toNat ∧ s.2 = 0 then (i : Int) + 1 else s.2)
def stV : Nat → List (List Int) → StS → StS
  | _, [], s => s
  | i, l :: r, s => stV (i + 1) r (l.foldl (stU i) s)
theorem stV_drop {L : List (List Int)} {k : Nat} {l : List Int} (s : StS) (h : L[k]? = some l) : stV k (L.drop k) s = stV (k + 1) (L.drop (k + 1)) (l.foldl (stU k) s) := by
  obtain ⟨hk, rfl⟩ := List.getElem?_eq_some_iff.1 h; rw [List.drop_eq_getElem_cons hk, stV]
theorem stU_drop {l : List Int} {j : Nat} (hj : j < l.length) (i : Nat) (s : StS) : (l.drop j).foldl (stU i) s = (l.drop (j + 1)).foldl (stU i) (stU i s (gt l j)) := by
  rw [List.drop_eq_getElem_cons hj, List.foldl_cons]; have e : gt l j = l[j] := (by rw [gt, List.getElem?_eq_getElem hj]; rfl); rw [e]
theorem madeI {n j : Nat} (hj : j < n) : (madeCells #[.int .i64 0] n)[j]? = some (.int .i64 0) := by
  unfold madeCells; simp [hj, Nat.mod_one]
theorem infoInt : ∃ i, Tryz.prog.info? 3 = some i ∧ i.zero = some (.int .i64 0) ∧ i.size = 1 ∧ i.bytes = 8 := by
  have h : (Tryz.prog.info? 3).map (fun i => (i.zero, i.size, i.bytes)) = some (some (.int .i64 0), 1, 8) := (by kernel_rfl); obtain ⟨i, hi, he⟩ := Option.map_eq_some_iff.1 h; injection he with e1 e2
  injection e2 with e2 e3
  exact ⟨i, hi, e1, e2, e3⟩
theorem make_ints (n : Nat) (hn : n ≤ 1000000) (W : World) : (Instr.makeSlice 43 (.int .i64 (n : Int)) (.int .i64 (n : Int))).run Tryz.prog W = .ok (.slice (some ⟨W.heap.size, 0, none⟩) n n) (W.alloc (.cells (madeCells #[.int .i64 0] n) 3)) := by
  obtain ⟨i, h1, h2, h3, h4⟩ := infoInt; have h := run_make (P := Tryz.prog) W 43 3 i _ Tryz.underlying43 h1 h2 .i64 .i64 (n : Int) (n : Int) (by omega) (Int.le_refl _) (by rw [h4]; omega) (by omega); rw [h3] at h; simpa [Value.cells] using h
theorem IRow.made (W : World) (n : Nat) : IRow (W.alloc (.cells (madeCells #[.int .i64 0] n) 3)) W.heap.size n (fun _ => 0) :=
  ⟨_, _, Blk.new W _ _, by rw [size_madeCells]; exact Nat.le_refl _, fun j hj => madeI hj⟩
structure TbM (w : World) (A : Option Addr) (n c : Nat) (L : List RgV) : Prop where
  row : RowG w A n 2 RgV.cells L
  cap : n ≤ c ∧ c ≤ maxLen
  all : ∀ r ∈ L, RgM w r
theorem TbM.below {w w' : World} {A : Option Addr} {n c : Nat} {L : List RgV} (h : TbM w A n c L) (hb : Below w.heap.size w w') : TbM w' A n c L := ⟨h.row.below hb, h.cap, fun r hr => (h.all r hr).below hb⟩
theorem TbM.at_ {w : World} {A : Option Addr} {n c : Nat} {L : List RgV} (h : TbM w A n c L) {i : Nat} (hi : i < n) :
    ∃ gb o r, A = some ⟨gb, o, none⟩ ∧ gb < w.heap.size ∧ L[i]? = some r ∧ w.cell? ⟨gb, o + i * 2, none⟩ = some (.slice r.A r.n r.c) ∧ w.cell? ⟨gb, o + i * 2 + 1, none⟩ = some (.slice r.B r.m r.d) := by
  obtain ⟨gb, o, r, h1, h2, h3, h4⟩ := h.row.at_ (by decide) hi; exact ⟨gb, o, r, h1, h2, h3, h4 0 _ rfl, h4 1 _ rfl⟩
set_option maxHeartbeats 1600000 in
theorem stopsOf_any (r : RgV) (w : World) : Calls Tryz.prog 56 #[.agg #[.slice r.A r.n r.c, .slice r.B r.m r.d]] w fun e w' => e = .returned (.slice r.A r.n r.c) ∧ Below w.heap.size w w' := by
  have HB : Sl _ := ⟨(Below.refl w.heap.size w).alloc (Nat.le_refl _) (.cells #[.slice r.A r.n r.c, .slice r.B r.m r.d] 45)⟩; go_enter Tryz.func56, Tryz.ntmps56; go_wp2_with fail; go_ret; exact ⟨rfl, HB.out⟩
set_option maxHeartbeats 6400000 in
set_option maxRecDepth 100000 in
theorem steps_stops (T : Option Addr) (n c : Nat) (L : List RgV) (many : Nat) (w : World) (hT : TbM w T n c L) (hn : n ≤ 100000) (hm : many ≤ 100000) (hI : ∀ r ∈ L, r.n ≤ 100000 ∧ ∀ j, j < r.n → 0 ≤ gt r.l j ∧ gt r.l j < (many : Int)) :
    Calls Tryz.prog 55 #[.agg #[.slice T n c], .int .i64 (many : Int), .func (.func 56) #[] #[]] w fun e w' =>
      (∃ g, e = .returned (.tuple #[.slice (some ⟨g, 0, none⟩) many many, .int .i64 (stV 0 (L.map RgV.l) (fun _ => 0, 0)).2]) ∧ IRow w' g many (stV 0 (L.map RgV.l) (fun _ => 0, 0)).1 ∧ w.heap.size ≤ g) ∧ Below w.heap.size w w' := by
  have hrun : ∀ (args : Array Value) (w : World), (callFunc 56 args).run Tryz.prog w = .ok (.enter 56 args) w := fun a w => by go_simp
  obtain ⟨R, hR⟩ : ∃ R, stV 0 (L.map RgV.l) (fun _ => 0, 0) = R := ⟨_, rfl⟩; rw [hR]; have HR : Sl _ := ⟨hR⟩; have HT : Sl _ := ⟨hT⟩; have HI : Sl _ := ⟨hI⟩; have HB : Sl _ := ⟨(Below.refl w.heap.size w).alloc (Nat.le_refl _) (.cells #[.slice T n c] 53)⟩; have hmk := make_ints many (by omega); clear hR hT hI; go_enter Tryz.func55, Tryz.ntmps55; go_wp2_with fail; have HB2 : Sl (Below w.heap.size w ((w.alloc (.cells #[.slice T n c] 53)).alloc (.cells (madeCells #[.int .i64 0] many) 3))) := ⟨HB.out.alloc HB.out.size _⟩; have hir := IRow.made (w.alloc (.cells #[.slice T n c] 53)) many; rw [show (w.alloc (.cells #[.slice T n c] 53)).heap.size = w.heap.size + 1 by simp] at hir; have HIR : Sl _ := ⟨hir⟩; clear hir hmk HB; obtain ⟨g, hg⟩ : ∃ g, w.heap.size + 1 = g := ⟨_, rfl⟩; rw [hg] at HIR ⊢; have HG : Sl (w.heap.size ≤ g) := ⟨by omega⟩; clear hg; generalize (w.alloc (.cells #[.slice T n c] 53)).alloc (.cells (madeCells #[.int .i64 0] many) 3) = wi at *
  go_loopw [7, 17] (fun s7 s17 wr => ∃ (k : Nat) (f : Nat → Int) (tw : Int), k ≤ n ∧ s7 = .int .i64 tw ∧ s17 = .int .i64 k ∧ Sl (Below w.heap.size w wr ∧ IRow wr g many f) ∧ Sl (stV k ((L.map RgV.l).drop k) (f, tw) = R)) (fun _ s17 _ => n - (RowKit.intOf s17).toNat)
  case atStart => exact ⟨0, _, 0, Nat.zero_le _, rfl, rfl, ⟨HB2.out, HIR.out⟩, HR⟩
  case round =>
    clear HB2 HIR; obtain ⟨k, f, tw, hk, rfl, rfl, HM, HK⟩ := hrel
    by_cases hkn : k < n
    · have hkI : decide ((k : Int) < (n : Int)) = true := decide_eq_true (by omega); have hkI2 : (k : Int) < (n : Int) := (by omega); obtain ⟨gb, oo, x, hA, hgb, hx, x0, x1⟩ := (HT.out.below HM.out.1).at_ hkn; have HX : Sl (RgM w x) := ⟨HT.out.all x (List.mem_of_getElem? hx)⟩; have HXI : Sl _ := ⟨HI.out x (List.mem_of_getElem? hx)⟩; have hmx : (L.map RgV.l)[k]? = some x.l := (by rw [List.getElem?_map, hx]; rfl); have HST : Sl (stV (k + 1) ((L.map RgV.l).drop (k + 1)) (x.l.foldl (stU k) (f, tw)) = R) := ⟨by rw [← stV_drop _ hmx]; exact HK.out⟩; rw [hA]; clear hA hx hmx HK
      go_upto_region 5 with ((with_reducible show wpList _ _ _ _ _ _); first
        | (refine wpList_alloc_new 9 rfl rfl 45 rfl #[.slice none 0 0, .slice none 0 0] alloc_reg ?_; rintro wa gx zg zm zs zb; have HXA : Sl _ := ⟨And.intro zg (And.intro zm (And.intro zs zb))⟩; clear zg zm zs zb)
        | (refine wpList_store_whole rfl 45 (.tmp 9) (.tmp 21) rfl gx #[.slice x.A x.n x.c, .slice x.B x.m x.d] rfl rfl 45 _ HXA.out.2.2.2 rfl (by kernel_rfl) (by simp [Value.oneCell']) ?_; rintro wb zm zs zb; have HXS : Sl _ := ⟨And.intro zm (And.intro zs zb)⟩; clear zm zs zb))
      have hwb : Below wr.heap.size wr wb := below_mv (below_mv (Below.refl _ _) HXA.out.2.1 (Nat.le_refl _) (Nat.le_refl _)) HXS.out.1 (by have := HXA.out.1; omega) (by have := HXA.out.1; have := HXA.out.2.2.1; omega); have y0 := HXS.out.2.2.cell 0; have y1 := HXS.out.2.2.cell 1; simp at y0 y1; replace HM : Sl (Below w.heap.size w wb ∧ IRow wb g many f) := ⟨HM.out.1.trans (hwb.mono HM.out.1.size), HM.out.2.below hwb HM.out.2.lt⟩; clear x0 x1 hwb HXA HXS; go_wp2_with fail; refine (stopsOf_any x wb).mono ?_; rintro e wc ⟨rfl, hb⟩; replace HM : Sl (Below w.heap.size w wc ∧ IRow wc g many f) := ⟨HM.out.1.trans (hb.mono HM.out.1.size), HM.out.2.below hb HM.out.2.lt⟩; have HXL : Sl (II w x.A x.n x.l) := ⟨HX.out.s⟩; clear hb y0 y1 HX; obtain ⟨M, hM⟩ : ∃ M, x.l.foldl (stU k) (f, tw) = M := ⟨_, rfl⟩; rw [hM] at HST; have HMM : Sl _ := ⟨hM⟩; clear hM; obtain ⟨xl, hxl⟩ : ∃ xl, x.l = xl := ⟨_, rfl⟩; obtain ⟨xn, hxn⟩ : ∃ xn, x.n = xn := ⟨_, rfl⟩; obtain ⟨xA, hxA⟩ : ∃ xA, x.A = xA := ⟨_, rfl⟩; rw [hxl] at HXI HXL HMM; rw [hxn] at HXI HXL ⊢; rw [hxA] at HXL ⊢; clear hxl hxn hxA; go_wp2_with fail
      go_loopw [7, 26] (fun s7 s26 wv => ∃ (j : Nat) (h : Nat → Int) (tv : Int), j ≤ xn ∧ s7 = .int .i64 tv ∧ s26 = .int .i64 j ∧ Sl (Below w.heap.size w wv ∧ IRow wv g many h) ∧ Sl ((xl.drop j).foldl (stU k) (h, tv) = M)) (fun _ s26 _ => xn - (RowKit.intOf s26).toNat)
      case atStart => exact ⟨0, f, tw, Nat.zero_le _, rfl, rfl, HM, HMM⟩
      case round =>
        clear HM HMM; obtain ⟨j, h, tv, hj, rfl, rfl, HM, HJ⟩ := hrel
        by_cases hjn : j < xn
        · have hjI : decide ((j : Int) < (xn : Int)) = true := decide_eq_true (by omega); have hjI2 : (j : Int) < (xn : Int) := (by omega); obtain ⟨ad, hA2, hab, c1⟩ := (HXL.out.below HM.out.1).cell (j := j) hjn; have hz := HXI.out.2 j hjn; have hxb : (xn : Int) ≤ 100000 := (by have := HXI.out.1; omega); have HD : Sl ((xl.drop (j + 1)).foldl (stU k) (stU k (h, tv) (gt xl j)) = M) := ⟨by rw [← stU_drop (by rw [HXL.out.1]; exact hjn)]; exact HJ.out⟩; obtain ⟨z, hzz⟩ : ∃ z, gt xl j = z := ⟨_, rfl⟩; rw [hzz] at hz HD c1; clear hzz HJ; rw [hA2]; clear hA2; obtain ⟨zn, rfl⟩ := Int.eq_ofNat_of_zero_le hz.1; have hzI : (zn : Int) < (many : Int) := hz.2; have hzN : zn < many := (by omega); have c2 := HM.out.2.cell hzN; have f2 := HM.out.2.frozen zn; have HSET : Sl _ := ⟨fun v : Int => HM.out.2.set (i := zn) v⟩; have HBS : Sl _ := ⟨fun v : Value => HM.out.1.setCell (p := ⟨g, zn, none⟩) HG.out v⟩; obtain ⟨y, hy⟩ : ∃ y, h zn = y := ⟨_, rfl⟩; rw [hy] at c2; have HU : Sl (stU k (h, tv) (zn : Int) = (fun m => if m = zn then (k : Int) + 1 else h m, if 0 < y ∧ tv = 0 then (k : Int) + 1 else tv)) := ⟨by rw [← hy]; rfl⟩; clear hy hz; have hk100 : (k : Int) ≤ 100000 := (by omega)
          by_cases p1 : 0 < y
          · have p1d : decide (0 < y) = true := decide_eq_true p1
            by_cases p2 : tv = 0
            · subst p2; rw [if_pos ⟨p1, rfl⟩] at HU; go_wp2_with fail; exact ⟨⟨j + 1, _, _, by omega, rfl, by go_num, ⟨HBS.out _, HSET.out _⟩, ⟨by rw [← HU.out]; exact HD.out⟩⟩, by simp [RowKit.intOf]; omega⟩
            · have p2d : (tv == 0) = false := (by rw [beq_eq_false_iff_ne]; exact p2); rw [if_neg (fun hh => p2 hh.2)] at HU; clear p2; go_wp2_with fail; exact ⟨⟨j + 1, _, _, by omega, rfl, by go_num, ⟨HBS.out _, HSET.out _⟩, ⟨by rw [← HU.out]; exact HD.out⟩⟩, by simp [RowKit.intOf]; omega⟩
          · have p1d : decide (0 < y) = false := decide_eq_false p1; rw [if_neg (fun hh => p1 hh.1)] at HU; go_wp2_with fail; exact ⟨⟨j + 1, _, _, by omega, rfl, by go_num, ⟨HBS.out _, HSET.out _⟩, ⟨by rw [← HU.out]; exact HD.out⟩⟩, by simp [RowKit.intOf]; omega⟩
        · obtain rfl : j = xn := (by omega); have HMV : Sl (M = (h, tv)) := ⟨by rw [← HJ.out, ← HXL.out.1, List.drop_length]; rfl⟩; rw [HMV.out] at HST; go_wp2_with fail; exact ⟨⟨k + 1, h, tv, by omega, rfl, by go_num, HM, HST⟩, by simp [RowKit.intOf]; omega⟩
    · obtain rfl : k = n := (by omega); have HRV : Sl (R = (f, tw)) := ⟨by rw [← HK.out, show k = (L.map RgV.l).length by rw [List.length_map]; exact HT.out.row.len.symm, List.drop_length]; rfl⟩; go_wp2_with fail; go_ret2; exact ⟨⟨g, by rw [HRV.out]; rfl, by rw [HRV.out]; exact HM.out.2, HG.out⟩, HM.out.1⟩
set_option maxHeartbeats 1600000 in
theorem couplersOf_any (r : RgV) (w : World) : Calls Tryz.prog 57 #[.agg #[.slice r.A r.n r.c, .slice r.B r.m r.d]] w fun e w' => e = .returned (.slice r.B r.m r.d) ∧ Below w.heap.size w w' := by
  have HB : Sl _ := ⟨(Below.refl w.heap.size w).alloc (Nat.le_refl _) (.cells #[.slice r.A r.n r.c, .slice r.B r.m r.d] 45)⟩; go_enter Tryz.func57, Tryz.ntmps57; go_wp2_with fail; go_ret; exact ⟨rfl, HB.out⟩
set_option maxHeartbeats 6400000 in
set_option maxRecDepth 100000 in
theorem steps_couplers (T : Option Addr) (n c : Nat) (L : List RgV) (many : Nat) (w : World) (hT : TbM w T n c L) (hn : n ≤ 100000) (hm : many ≤ 100000) (hI : ∀ r ∈ L, r.m ≤ 100000 ∧ ∀ j, j < r.m → 0 ≤ gt r.k j ∧ gt r.k j < (many : Int)) :
    Calls Tryz.prog 55 #[.agg #[.slice T n c], .int .i64 (many : Int), .func (.func 57) #[] #[]] w fun e w' =>
      (∃ g, e = .returned (.tuple #[.slice (some ⟨g, 0, none⟩) many many, .int .i64 (stV 0 (L.map RgV.k) (fun _ => 0, 0)).2]) ∧ IRow w' g many (stV 0 (L.map RgV.k) (fun _ => 0, 0)).1 ∧ w.heap.size ≤ g) ∧ Below w.heap.size w w' := by
  have hrun : ∀ (args : Array Value) (w : World), (callFunc 57 args).run Tryz.prog w = .ok (.enter 57 args) w := fun a w => by go_simp
  obtain ⟨R, hR⟩ : ∃ R, stV 0 (L.map RgV.k) (fun _ => 0, 0) = R := ⟨_, rfl⟩; rw [hR]; have HR : Sl _ := ⟨hR⟩; have HT : Sl _ := ⟨hT⟩; have HI : Sl _ := ⟨hI⟩; have HB : Sl _ := ⟨(Below.refl w.heap.size w).alloc (Nat.le_refl _) (.cells #[.slice T n c] 53)⟩; have hmk := make_ints many (by omega); clear hR hT hI; go_enter Tryz.func55, Tryz.ntmps55; go_wp2_with fail; have HB2 : Sl (Below w.heap.size w ((w.alloc (.cells #[.slice T n c] 53)).alloc (.cells (madeCells #[.int .i64 0] many) 3))) := ⟨HB.out.alloc HB.out.size _⟩; have hir := IRow.made (w.alloc (.cells #[.slice T n c] 53)) many; rw [show (w.alloc (.cells #[.slice T n c] 53)).heap.size = w.heap.size + 1 by simp] at hir; have HIR : Sl _ := ⟨hir⟩; clear hir hmk HB; obtain ⟨g, hg⟩ : ∃ g, w.heap.size + 1 = g := ⟨_, rfl⟩; rw [hg] at HIR ⊢; have HG : Sl (w.heap.size ≤ g) := ⟨by omega⟩; clear hg; generalize (w.alloc (.cells #[.slice T n c] 53)).alloc (.cells (madeCells #[.int .i64 0] many) 3) = wi at *
  go_loopw [7, 17] (fun s7 s17 wr => ∃ (k : Nat) (f : Nat → Int) (tw : Int), k ≤ n ∧ s7 = .int .i64 tw ∧ s17 = .int .i64 k ∧ Sl (Below w.heap.size w wr ∧ IRow wr g many f) ∧ Sl (stV k ((L.map RgV.k).drop k) (f, tw) = R)) (fun _ s17 _ => n - (RowKit.intOf s17).toNat)
  case atStart => exact ⟨0, _, 0, Nat.zero_le _, rfl, rfl, ⟨HB2.out, HIR.out⟩, HR⟩
  case round =>
    clear HB2 HIR; obtain ⟨k, f, tw, hk, rfl, rfl, HM, HK⟩ := hrel
    by_cases hkn : k < n
    · have hkI : decide ((k : Int) < (n : Int)) = true := decide_eq_true (by omega); have hkI2 : (k : Int) < (n : Int) := (by omega); obtain ⟨gb, oo, x, hA, hgb, hx, x0, x1⟩ := (HT.out.below HM.out.1).at_ hkn; have HX : Sl (RgM w x) := ⟨HT.out.all x (List.mem_of_getElem? hx)⟩; have HXI : Sl _ := ⟨HI.out x (List.mem_of_getElem? hx)⟩; have hmx : (L.map RgV.k)[k]? = some x.k := (by rw [List.getElem?_map, hx]; rfl); have HST : Sl (stV (k + 1) ((L.map RgV.k).drop (k + 1)) (x.k.foldl (stU k) (f, tw)) = R) := ⟨by rw [← stV_drop _ hmx]; exact HK.out⟩; rw [hA]; clear hA hx hmx HK
      go_upto_region 5 with ((with_reducible show wpList _ _ _ _ _ _); first
        | (refine wpList_alloc_new 9 rfl rfl 45 rfl #[.slice none 0 0, .slice none 0 0] alloc_reg ?_; rintro wa gx zg zm zs zb; have HXA : Sl _ := ⟨And.intro zg (And.intro zm (And.intro zs zb))⟩; clear zg zm zs zb)
        | (refine wpList_store_whole rfl 45 (.tmp 9) (.tmp 21) rfl gx #[.slice x.A x.n x.c, .slice x.B x.m x.d] rfl rfl 45 _ HXA.out.2.2.2 rfl (by kernel_rfl) (by simp [Value.oneCell']) ?_; rintro wb zm zs zb; have HXS : Sl _ := ⟨And.intro zm (And.intro zs zb)⟩; clear zm zs zb))
      have hwb : Below wr.heap.size wr wb := below_mv (below_mv (Below.refl _ _) HXA.out.2.1 (Nat.le_refl _) (Nat.le_refl _)) HXS.out.1 (by have := HXA.out.1; omega) (by have := HXA.out.1; have := HXA.out.2.2.1; omega); have y0 := HXS.out.2.2.cell 0; have y1 := HXS.out.2.2.cell 1; simp at y0 y1; replace HM : Sl (Below w.heap.size w wb ∧ IRow wb g many f) := ⟨HM.out.1.trans (hwb.mono HM.out.1.size), HM.out.2.below hwb HM.out.2.lt⟩; clear x0 x1 hwb HXA HXS; go_wp2_with fail; refine (couplersOf_any x wb).mono ?_; rintro e wc ⟨rfl, hb⟩; replace HM : Sl (Below w.heap.size w wc ∧ IRow wc g many f) := ⟨HM.out.1.trans (hb.mono HM.out.1.size), HM.out.2.below hb HM.out.2.lt⟩; have HXL : Sl (II w x.B x.m x.k) := ⟨HX.out.c⟩; clear hb y0 y1 HX; obtain ⟨M, hM⟩ : ∃ M, x.k.foldl (stU k) (f, tw) = M := ⟨_, rfl⟩; rw [hM] at HST; have HMM : Sl _ := ⟨hM⟩; clear hM; obtain ⟨xl, hxl⟩ : ∃ xl, x.k = xl := ⟨_, rfl⟩; obtain ⟨xn, hxn⟩ : ∃ xn, x.m = xn := ⟨_, rfl⟩; obtain ⟨xA, hxA⟩ : ∃ xA, x.B = xA := ⟨_, rfl⟩; rw [hxl] at HXI HXL HMM; rw [hxn] at HXI HXL ⊢; rw [hxA] at HXL ⊢; clear hxl hxn hxA; go_wp2_with fail
      go_loopw [7, 26] (fun s7 s26 wv => ∃ (j : Nat) (h : Nat → Int) (tv : Int), j ≤ xn ∧ s7 = .int .i64 tv ∧ s26 = .int .i64 j ∧ Sl (Below w.heap.size w wv ∧ IRow wv g many h) ∧ Sl ((xl.drop j).foldl (stU k) (h, tv) = M)) (fun _ s26 _ => xn - (RowKit.intOf s26).toNat)
      case atStart => exact ⟨0, f, tw, Nat.zero_le _, rfl, rfl, HM, HMM⟩
      case round =>
        clear HM HMM; obtain ⟨j, h, tv, hj, rfl, rfl, HM, HJ⟩ := hrel
        by_cases hjn : j < xn
        · have hjI : decide ((j : Int) < (xn : Int)) = true := decide_eq_true (by omega); have hjI2 : (j : Int) < (xn : Int) := (by omega); obtain ⟨ad, hA2, hab, c1⟩ := (HXL.out.below HM.out.1).cell (j := j) hjn; have hz := HXI.out.2 j hjn; have hxb : (xn : Int) ≤ 100000 := (by have := HXI.out.1; omega); have HD : Sl ((xl.drop (j + 1)).foldl (stU k) (stU k (h, tv) (gt xl j)) = M) := ⟨by rw [← stU_drop (by rw [HXL.out.1]; exact hjn)]; exact HJ.out⟩; obtain ⟨z, hzz⟩ : ∃ z, gt xl j = z := ⟨_, rfl⟩; rw [hzz] at hz HD c1; clear hzz HJ; rw [hA2]; clear hA2; obtain ⟨zn, rfl⟩ := Int.eq_ofNat_of_zero_le hz.1; have hzI : (zn : Int) < (many : Int) := hz.2; have hzN : zn < many := (by omega); have c2 := HM.out.2.cell hzN; have f2 := HM.out.2.frozen zn; have HSET : Sl _ := ⟨fun v : Int => HM.out.2.set (i := zn) v⟩; have HBS : Sl _ := ⟨fun v : Value => HM.out.1.setCell (p := ⟨g, zn, none⟩) HG.out v⟩; obtain ⟨y, hy⟩ : ∃ y, h zn = y := ⟨_, rfl⟩; rw [hy] at c2; have HU : Sl (stU k (h, tv) (zn : Int) = (fun m => if m = zn then (k : Int) + 1 else h m, if 0 < y ∧ tv = 0 then (k : Int) + 1 else tv)) := ⟨by rw [← hy]; rfl⟩; clear hy hz; have hk100 : (k : Int) ≤ 100000 := (by omega)
          by_cases p1 : 0 < y
          · have p1d : decide (0 < y) = true := decide_eq_true p1
            by_cases p2 : tv = 0
            · subst p2; rw [if_pos ⟨p1, rfl⟩] at HU; go_wp2_with fail; exact ⟨⟨j + 1, _, _, by omega, rfl, by go_num, ⟨HBS.out _, HSET.out _⟩, ⟨by rw [← HU.out]; exact HD.out⟩⟩, by simp [RowKit.intOf]; omega⟩
            · have p2d : (tv == 0) = false := (by rw [beq_eq_false_iff_ne]; exact p2); rw [if_neg (fun hh => p2 hh.2)] at HU; clear p2; go_wp2_with fail; exact ⟨⟨j + 1, _, _, by omega, rfl, by go_num, ⟨HBS.out _, HSET.out _⟩, ⟨by rw [← HU.out]; exact HD.out⟩⟩, by simp [RowKit.intOf]; omega⟩
          · have p1d : decide (0 < y) = false := decide_eq_false p1; rw [if_neg (fun hh => p1 hh.1)] at HU; go_wp2_with fail; exact ⟨⟨j + 1, _, _, by omega, rfl, by go_num, ⟨HBS.out _, HSET.out _⟩, ⟨by rw [← HU.out]; exact HD.out⟩⟩, by simp [RowKit.intOf]; omega⟩
        · obtain rfl : j = xn := (by omega); have HMV : Sl (M = (h, tv)) := ⟨by rw [← HJ.out, ← HXL.out.1, List.drop_length]; rfl⟩; rw [HMV.out] at HST; go_wp2_with fail; exact ⟨⟨k + 1, h, tv, by omega, rfl, by go_num, HM, HST⟩, by simp [RowKit.intOf]; omega⟩
    · obtain rfl : k = n := (by omega); have HRV : Sl (R = (f, tw)) := ⟨by rw [← HK.out, show k = (L.map RgV.k).length by rw [List.length_map]; exact HT.out.row.len.symm, List.drop_length]; rfl⟩; go_wp2_with fail; go_ret2; exact ⟨⟨g, by rw [HRV.out]; rfl, by rw [HRV.out]; exact HM.out.2, HG.out⟩, HM.out.1⟩
end Go.Proofs.YtabkpbbjodfolaaGreatDoor
