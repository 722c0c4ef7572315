/- Plain law: what ratios.Parse reads. No program in sight. -/
import Derived.Test.YtalodfjplegibaaGreatDoorZtAc
import Derived.Test.YtalodfjplegibaaGreatDoorRatK
import Derived.Deep.DeepCutAuto
import Derived.Deep.CutRange
namespace Go.Proofs.YtalodfjplegibaaGreatDoor
set_option linter.unusedSimpArgs false
open Go.RowKit
set_option linter.unusedVariables false
theorem vb_pow_le {p m n : Nat} (hp : 2 ≤ p) (hn : 0 < n) (h : p ^ m ∣ n) (hx : n < 2 ^ 41) : m ≤ 40 := by
  refine Nat.le_of_not_lt fun hm => ?_
  have h1 := Nat.le_of_dvd hn h; have h2 : 2 ^ 41 ≤ p ^ m := Nat.le_trans (Nat.pow_le_pow_right (by decide) (by omega)) (Nat.pow_le_pow_left hp m); omega
theorem ex_small {x i : Nat} (hx : 0 < x) (h : x ≤ 1000000000000) (hi : i < 6) : ex x i ≤ 40 := by
  have h1 := stripN_pos hx (i := i) (by omega); unfold ex; exact vb_pow_le (prime_two hi).1 h1.1 (vb_dvd (prime_two hi).1 _ h1.1).1 (by have := h1.2; omega)
theorem of_one_bd {P : Int} {b : RV} (h : ofS P 1 = (b, 0)) : b.d = 1 ∧ ∀ i, i < 6 → -40 ≤ b.num i ∧ b.num i ≤ 40 := by
  unfold ofS at h
  split at h
  · rename_i hok
    split at h
    · injection h with h1 _
      subst h1; refine ⟨rfl, fun i hi => ?_⟩; rw [RV.of_num _ _ hi]; unfold ofF; rw [if_pos hi]; have h1 := hok.1.1; have h2 := hok.1.2; have e1 := ex_small (x := P.natAbs) (by omega) (by omega) hi; have e2 := ex_small (x := (1 : Int).natAbs) (by decide) (by decide) hi; omega
    · injection h with _ h2; exact absurd h2 (by decide)
  · injection h with _ h2; exact absurd h2 (by decide)
theorem of_prime {i : Nat} (hi : i < 6) : ofS (prime i : Int) 1 = (unR i 1 1, 0) := by
  have h1 : stripN (prime i : Int).natAbs 6 = stripN (1 : Int).natAbs 6 := by
    rcases (show i = 0 ∨ i = 1 ∨ i = 2 ∨ i = 3 ∨ i = 4 ∨ i = 5 by omega) with rfl | rfl | rfl | rfl | rfl | rfl <;> decide +kernel
  have h2 : ∀ j, j < 6 → ofF (prime i : Int).natAbs (1 : Int).natAbs 6 j = if j = i then 1 else 0 := by
    intro j hj
    rcases (show i = 0 ∨ i = 1 ∨ i = 2 ∨ i = 3 ∨ i = 4 ∨ i = 5 by omega) with rfl | rfl | rfl | rfl | rfl | rfl <;>
      rcases (show j = 0 ∨ j = 1 ∨ j = 2 ∨ j = 3 ∨ j = 4 ∨ j = 5 by omega) with rfl | rfl | rfl | rfl | rfl | rfl <;> decide +kernel
  have hp := prime_two hi; unfold ofS; rw [if_pos ⟨⟨by omega, by omega⟩, ⟨by decide, by decide⟩⟩, if_pos h1, RV.of_congr 1 h2]; rfl
def mulP (b : RV) (N : Int) (k : Nat) (D : Int) : RV := RV.of (fun j => if j < k then b.num j * N else b.num j) D
theorem mulP_un {i : Nat} (N D : Int) : mulP (unR i 1 1) N 6 D = unR i N D := by
  unfold mulP unR; refine RV.of_congr _ fun j hj => ?_
  rw [if_pos hj, RV.of_num _ _ hj]
  split
  · rw [Int.one_mul]
  · rw [Int.zero_mul]
theorem mulP_zero {b : RV} (N : Int) : mulP b N 0 b.d = b := by
  unfold mulP; exact RV.ext6 (fun j hj => by rw [RV.of_num _ _ hj, if_neg (Nat.not_lt_zero _)]) rfl
theorem mulP_cell {b : RV} (N D : Int) {k : Nat} (hk : k < 6) : (mulP b N k D).cells[k]? = some (.int .i64 (b.num k)) := by
  unfold mulP; rw [RV.of_cell _ _ hk, if_neg (Nat.lt_irrefl _)]
theorem mulP_step {b : RV} (N D : Int) {k : Nat} (hk : k < 6) : (mulP b N k D).cells.setIfInBounds k (.int .i64 (b.num k * N)) = (mulP b N (k + 1) D).cells := by
  unfold mulP; rw [RV.of_set _ _ _ hk]; congr 1; refine RV.of_congr _ fun j hj => ?_
  by_cases h1 : j = k
  · subst h1; rw [if_pos rfl, if_pos (by omega)]
  · rw [if_neg h1]
    by_cases h2 : j < k
    · rw [if_pos h2, if_pos (by omega)]
    · rw [if_neg h2, if_neg (by omega)]
theorem mulP_bd {b : RV} {N D : Int} (hb : ∀ i, i < 6 → -40 ≤ b.num i ∧ b.num i ≤ 40) (hN : -100000 ≤ N ∧ N ≤ 100000) : ∀ i, i < 6 → -4000000 ≤ b.num i * N ∧ b.num i * N ≤ 4000000 := fun i hi => by
  obtain ⟨h1, h2⟩ := hb i hi
  have key : (b.num i * N).natAbs ≤ 40 * 100000 := by
    rw [Int.natAbs_mul]; exact Nat.mul_le_mul (by omega) (by omega)
  omega
theorem mulP_made {b : RV} {N D : Int} (hb : ∀ i, i < 6 → -40 ≤ b.num i ∧ b.num i ≤ 40) (hN : -100000 ≤ N ∧ N ≤ 100000) : ∀ i, i < 6 → -1000000000 ≤ (mulP b N 6 D).num i ∧ (mulP b N 6 D).num i ≤ 1000000000 := fun i hi => by
  have := mulP_bd (D := D) hb hN i hi; unfold mulP; rw [RV.of_num _ _ hi, if_pos hi]; omega
theorem made_good {a q : RV} (h1 : 1 ≤ a.d) (h : madeS a = (q, 0)) : checkS q = 0 := by
  have hm := madeS_check _ h1
  by_cases hc : checkS (mkR a) = 0
  · rw [hm.1 hc] at h; injection h with h1 _
    rw [← h1]; exact hc
  · rw [hm.2 hc] at h; injection h with _ h2
    exact absurd h2 (by decide)
theorem xspl_len {c : UInt8} : ∀ {l x : List UInt8}, x ∈ xspl c l → x.length ≤ l.length
  | [], x, h => by
    rw [xspl, List.mem_singleton] at h; subst h; exact Nat.le_refl _
  | b :: l, x, h => by
    rw [xspl] at h
    split at h
    · rcases List.mem_cons.1 h with rfl | h
      · exact Nat.zero_le _
      · have := xspl_len h; rw [List.length_cons]; omega
    · split at h
      · rw [List.mem_singleton] at h; subst h; rw [List.length_cons]; simp
      · rename_i a t ht; rcases List.mem_cons.1 h with rfl | h
        · have := xspl_len (x := a) (by rw [ht]; exact List.mem_cons_self); rw [List.length_cons, List.length_cons]; omega
        · have := xspl_len (x := x) (by rw [ht]; exact List.mem_cons_of_mem _ h); rw [List.length_cons]; omega
theorem xword_le {s x : ByteArray} {k : Nat} (h : (xwordsB s)[k]? = some x) : x.size ≤ s.size := by
  unfold xwordsB at h; rw [List.getElem?_map] at h; rcases hk : (xspl 32 s.data.toList)[k]? with _ | l
  · rw [hk] at h; cases h
  · rw [hk] at h; injection h with h
    subst h; have := xspl_len (List.mem_of_getElem? hk); rw [Array.length_toList] at this; show l.toArray.size ≤ s.data.size; rw [List.size_toArray]; exact this
theorem cut_len (l c : List UInt8) : (Lib.cut l c).1.length ≤ l.length ∧ (Lib.cut l c).2.1.length ≤ l.length := by
  unfold Lib.cut
  split
  · refine ⟨?_, ?_⟩
    · rw [List.length_take]; omega
    · rw [List.length_drop]; omega
  · exact ⟨Nat.le_refl _, Nat.zero_le _⟩
def JInv (s : ByteArray) (k : Nat) (q : RV) : Prop := checkS q = 0 ∧ ∀ r, checkS r = 0 → txR r = s.data.toList → At r k q
theorem JInv.start (s : ByteArray) : JInv s 0 oneR := ⟨one_check, fun r hc _ => At.zero hc⟩
theorem xwords_good {s : ByteArray} (hs : s.data.toList ≠ [49]) {r : RV} (h2 : txR r = s.data.toList) : xspl 32 s.data.toList = wdsR r := by
  have h0 : termsN r 6 ≠ [] := fun h0 => hs (by rw [← h2]; unfold txR; rw [if_pos h0])
  rw [← h2]; exact (txR_some h0).2.2
theorem xwordsB_len (s : ByteArray) : (xwordsB s).length = (xspl 32 s.data.toList).length := by unfold xwordsB; rw [List.length_map]
theorem JInv.good {s x : ByteArray} {k : Nat} {q r : RV} (h : JInv s k q) (hs : s.data.toList ≠ [49]) (hx : (xwordsB s)[k]? = some x) (h1 : checkS r = 0) (h2 : txR r = s.data.toList) :
    (Lib.cut x.data.toList [94]).2.2 = true ∧ (-100000 ≤ wdN x.data.toList ∧ wdN x.data.toList ≤ 100000) ∧ (1 ≤ wdD x.data.toList ∧ wdD x.data.toList ≤ 1000) ∧
      ∃ b0 b1 q', ofS (wdP x.data.toList) 1 = (b0, 0) ∧ madeS (mulP b0 (wdN x.data.toList) 6 (wdD x.data.toList)) = (b1, 0) ∧ joinS q b1 1 = (q', 0) ∧ At r (k + 1) q' := by
  have hw := xwords_good hs h2
  have hx2 : (wdsR r)[k]? = some x.data.toList := by
    rw [← hw]; unfold xwordsB at hx; rw [List.getElem?_map] at hx; rcases hk : (xspl 32 s.data.toList)[k]? with _ | l
    · rw [hk] at hx; cases hx
    · rw [hk] at hx; injection hx with hx
      subst hx; simp
  have hl : k < (termsN r 6).length := (by rw [← wds_len]; exact (List.getElem?_eq_some_iff.1 hx2).1); obtain ⟨i, i1, i2, i3, ⟨_, i4, i5⟩, q', q1, q2⟩ := (h.2 r h1 h2).step h1 hl; rw [hx2] at i2; injection i2 with i2
  obtain ⟨w1, w2, w3, w4⟩ := wr_read (prime_le i1) i4 i5; rw [← i2] at w1 w2 w3 w4; have hb := gR_bd i5.1 (k := r.num i); have := i4.1; have := i4.2; refine ⟨w1, by rw [w3]; omega, by rw [w4]; omega, unR i 1 1, unR i (wdN x.data.toList) (wdD x.data.toList), q', by rw [w2]; exact of_prime i1, ?_, by rw [w3, w4]; exact q1, q2⟩; rw [mulP_un, w3, w4]; exact made_self (un_check i1 i4 i5)
theorem JInv.next {s x : ByteArray} {k : Nat} {q b0 b1 q' : RV} (h : JInv s k q) (hs : s.data.toList ≠ [49]) (hx : (xwordsB s)[k]? = some x) (hD : 1 ≤ wdD x.data.toList) (h1 : ofS (wdP x.data.toList) 1 = (b0, 0))
    (h2 : madeS (mulP b0 (wdN x.data.toList) 6 (wdD x.data.toList)) = (b1, 0)) (h3 : joinS q b1 1 = (q', 0)) : JInv s (k + 1) q' := by
  refine ⟨join_good h.1 (made_good (by show 1 ≤ wdD _; exact hD) h2) h3, fun r c1 c2 => ?_⟩; obtain ⟨_, _, _, x0, x1, x2, e1, e2, e3, e4⟩ := h.good hs hx c1 c2; rw [h1] at e1; injection e1 with e1 _
  subst e1; rw [h2] at e2; injection e2 with e2 _
  subst e2; rw [h3] at e3; injection e3 with e3 _
  rw [e3]; exact e4
theorem JInv.last {s : ByteArray} {q : RV} (h : JInv s (xwordsB s).length q) (hs : s.data.toList ≠ [49]) {r : RV} (h1 : checkS r = 0) (h2 : txR r = s.data.toList) : q = r := by
  have ha := h.2 r h1 h2; rw [xwordsB_len, xwords_good hs h2, wds_len] at ha; exact At.last h1 ha
theorem xspl_count {c : UInt8} : ∀ l : List UInt8, (xspl c l).length ≤ l.length + 1
  | [] => by rw [xspl]; simp
  | b :: l => by
    have ih := xspl_count (c := c) l; rw [xspl]
    split
    · rw [List.length_cons, List.length_cons]; omega
    · split
      · simp
      · rename_i a t ht; rw [ht] at ih; rw [List.length_cons] at ih ⊢; rw [List.length_cons]; omega
theorem xwords_le {s : ByteArray} (hs : s.size ≤ 200) : (xwordsB s).length ≤ 201 := by
  rw [xwordsB_len]; have := xspl_count (c := 32) s.data.toList; have e : s.data.toList.length = s.size := (by rw [Array.length_toList]; rfl); omega
theorem strs_cell {l : List ByteArray} {k : Nat} {x : ByteArray} (h : l[k]? = some x) : (strs l).toArray[k]? = some (.string x) := by
  rw [List.getElem?_toArray]; unfold strs; rw [List.getElem?_map, h]; rfl
end Go.Proofs.YtalodfjplegibaaGreatDoor
namespace Go.Proofs.YtalodfjplegibaaGreatDoor
set_option linter.unusedSimpArgs false
open Go.RowKit
set_option linter.unusedVariables false
theorem size_xnums : (Tryz.prog.info? 22).map (·.size) = some 6 := by kernel_rfl
attribute [-simp] Tryz.isAgg24
set_option maxHeartbeats 6400000 in
set_option maxRecDepth 100000 in
theorem xParse_any (s : ByteArray) (w : World) (hT : PrT w) (hF : FmtOK w) (hX : ParX w) : Calls Tryz.prog 7 #[.string s] w fun e w' => e = .returned (.tuple #[.agg (parR s).1.cells, .int .i64 (parR s).2]) ∧ Below w.heap.size w w' := by
  have HB : Sl (Below w.heap.size w w) := ⟨Below.refl _ _⟩; obtain ⟨r, hr⟩ : ∃ r, parR s = r := ⟨_, rfl⟩; rw [hr]; have HR : Sl _ := ⟨hr⟩; have HT : Sl _ := ⟨hT⟩; have HF : Sl _ := ⟨hF⟩; have HX : Sl _ := ⟨hX⟩; clear hr hT hF hX
  by_cases hl : 200 < s.size
  · have hd : decide ((200 : Int) < (s.size : Int)) = true := decide_eq_true (by omega); have HV : Sl (r = (RVzero, 3)) := ⟨by rw [← HR.out]; exact parR_long hl⟩; go_enter Tryz.func7, Tryz.ntmps7
    go_wp2_with ((with_reducible show wpList _ _ _ _ _ _); first
      | (refine wpList_alloc_new 2 rfl rfl 24 rfl RVzero.cells alloc_xratio ?_; rintro w1 gR zg zm zs zb; have ORD : Sl (w.heap.size ≤ gR) := ⟨by have := HB.out.size; omega⟩; replace HB : Sl (Below w.heap.size w w1) := ⟨below_mv HB.out zm (by have := HB.out.size; have := ORD.out; omega) HB.out.size⟩; have XR : Sl (Blk w1 gR 24 RVzero.cells) := ⟨zb⟩; clear zg zm zs zb)
      | (refine wpList_store_whole rfl 24 (.tmp 2) (.tmp 23) rfl gR RVzero.cells rfl rfl 24 RVzero.cells XR.out rfl size_xratio (RV.xcells_one _) ?_; rintro w2 zm zs zb; replace HB : Sl (Below w.heap.size w w2) := ⟨below_mv HB.out zm (by have := HB.out.size; have := ORD.out; omega) HB.out.size⟩; replace XR : Sl (Blk w2 gR 24 RVzero.cells) := ⟨zb⟩; clear zm zs zb))
    (try simp only [Exit.inBlock, Exit.then]); refine bodyPost_ret (results_rowR rfl _ _ gR _ _ _ rfl XR.out Tryz.underlying24 rfl size_xratio) rfl ?_
    exact ⟨by rw [HV.out]; rfl, HB.out⟩
  · have hd : decide ((200 : Int) < (s.size : Int)) = false := decide_eq_false (by omega); have HL : Sl (s.size ≤ 200) := ⟨by omega⟩; clear hl
    by_cases h1 : s.data.toList = [49]
    · have hq : (s.toList == [49]) = true := (by rw [beq_iff_eq, Go.ByteArray.toList_eq]; exact h1); have HV : Sl (r = (oneR, 0)) := ⟨by rw [← HR.out]; exact parR_hit HL.out one_check (one_text.trans h1.symm)⟩
      have HTX : Sl (∀ W : World, PrT W → FmtOK W → Calls Tryz.prog 5 #[.agg oneR.cells] W fun e w' => e = .returned (.tuple #[.string s, .int .i64 0]) ∧ Below W.heap.size W w') := ⟨fun W h2 h3 => (xText_any oneR W h2 h3).mono fun e w' hh => ⟨by
        have := hh.1.2 one_check; rw [one_text, ← h1] at this
        rw [this]; cases s; simp [xB], hh.2⟩⟩
      clear h1; have HSP : Sl _ := ⟨fun (W : World) (h : ParX W) => xsplit_any s HL.out W h⟩; go_enter Tryz.func7, Tryz.ntmps7
      go_wp2_with ((with_reducible show wpList _ _ _ _ _ _); first
        | (refine wpList_alloc_new 2 rfl rfl 24 rfl RVzero.cells alloc_xratio ?_; rintro w13 gR zg zm zs zb; have ORD : Sl (w.heap.size ≤ gR) := ⟨by have := HB.out.size; omega⟩; replace HB : Sl (Below w.heap.size w w13) := ⟨below_mv HB.out zm (by have := HB.out.size; have := ORD.out; omega) HB.out.size⟩; have XR : Sl (Blk w13 gR 24 RVzero.cells) := ⟨zb⟩; clear zg zm zs zb)
        | (refine wpList_alloc_new 4 rfl rfl 24 rfl RVzero.cells alloc_xratio ?_; rintro w14 gQ zg zm zs zb; replace ORD : Sl (w.heap.size ≤ gR ∧ gR < gQ) := ⟨by have := HB.out.size; have := ORD.out; have := XR.out.lt; omega⟩; replace HB : Sl (Below w.heap.size w w14) := ⟨below_mv HB.out zm (by have := HB.out.size; have := ORD.out; omega) HB.out.size⟩; replace XR : Sl (Blk w14 gR 24 RVzero.cells) := ⟨XR.out.mv zm (by have := XR.out.lt; have := ORD.out; omega)⟩; have XQ : Sl (Blk w14 gQ 24 RVzero.cells) := ⟨zb⟩; clear zg zm zs zb)
        | (refine wpList_store_whole rfl 24 (.tmp 4) (.tmp 24) rfl gQ oneR.cells rfl rfl 24 RVzero.cells XQ.out rfl size_xratio (RV.xcells_one _) ?_; rintro w15 zm zs zb; replace HB : Sl (Below w.heap.size w w15) := ⟨below_mv HB.out zm (by have := HB.out.size; have := ORD.out; omega) HB.out.size⟩; replace XR : Sl (Blk w15 gR 24 RVzero.cells) := ⟨XR.out.mv zm (by have := XR.out.lt; have := ORD.out; omega)⟩; replace XQ : Sl (Blk w15 gQ 24 oneR.cells) := ⟨zb⟩; clear zm zs zb))
      have HSZ : Sl (gQ < w15.heap.size) := ⟨XQ.out.lt⟩; refine (HSP.out _ (HX.out.below HB.out)).mono ?_; rintro e w16 ⟨⟨gW, n, hn, rfl, zb, hge⟩, hb⟩; replace HB : Sl (Below w.heap.size w w16) := ⟨HB.out.trans (hb.mono HB.out.size)⟩; replace XR : Sl (Blk w16 gR 24 RVzero.cells) := ⟨XR.out.below hb XR.out.lt⟩; replace XQ : Sl (Blk w16 gQ 24 oneR.cells) := ⟨XQ.out.below hb XQ.out.lt⟩; have XW : Sl (Blk w16 gW 9 (strs (xwordsB s)).toArray) := ⟨zb⟩; replace ORD : Sl (w.heap.size ≤ gR ∧ gR < gQ ∧ gQ < gW) := ⟨by have := ORD.out; have := HSZ.out; omega⟩; have HN : Sl _ := ⟨hn⟩; clear hb zb hge hn; have hnm : n ≤ 201 := (by rw [HN.out]; exact xwords_le HL.out); go_wp2_with fail
      go_loopw [28] (fun s28 wr => ∃ (k : Nat), k ≤ n ∧ s28 = .int .i64 k ∧ Sl (Below w.heap.size w wr) ∧ Sl (Blk wr gR 24 RVzero.cells) ∧ Sl (Blk wr gQ 24 oneR.cells) ∧ Sl (Blk wr gW 9 (strs (xwordsB s)).toArray)) (fun s28 _ => n - (RowKit.intOf s28).toNat)
      case atStart => exact ⟨0, Nat.zero_le _, rfl, HB, XR, XQ, XW⟩
      case round =>
        clear HB XR XQ XW; obtain ⟨k, hk, rfl, HB, XR, XQ, XW⟩ := hrel
        by_cases hkn : k < n
        · have hkI : decide ((k : Int) < (n : Int)) = true := decide_eq_true (by omega); have hk0 : (0 : Int) ≤ (k : Int) := (by omega); have hk1 : (k : Int) < (n : Int) := (by omega); obtain ⟨x, hx⟩ : ∃ x, (xwordsB s)[k]? = some x := ⟨_, List.getElem?_eq_getElem (by rw [← HN.out]; exact hkn)⟩; have ck : wr.cell? ⟨gW, k, none⟩ = some (.string x) := (by rw [XW.out.cell, strs_cell hx]); clear hx
          go_wp2_with ((with_reducible show wpList _ _ _ _ _ _); first
            | (refine wpList_load_whole rfl 24 (.tmp 4) rfl gQ rfl 24 oneR.cells _ XQ.out Tryz.underlying24 rfl size_xratio ?_))
          refine (HTX.out _ (HT.out.below HB.out) (HF.out.below HB.out)).mono ?_; rintro e w17 ⟨rfl, hb⟩; replace HB : Sl (Below w.heap.size w w17) := ⟨HB.out.trans (hb.mono HB.out.size)⟩; replace XR : Sl (Blk w17 gR 24 RVzero.cells) := ⟨XR.out.below hb XR.out.lt⟩; replace XQ : Sl (Blk w17 gQ 24 oneR.cells) := ⟨XQ.out.below hb XQ.out.lt⟩; replace XW : Sl (Blk w17 gW 9 (strs (xwordsB s)).toArray) := ⟨XW.out.below hb XW.out.lt⟩; clear hb
          go_wp2_with ((with_reducible show wpList _ _ _ _ _ _); first
            | (refine wpList_load_whole rfl 24 (.tmp 4) rfl gQ rfl 24 oneR.cells _ XQ.out Tryz.underlying24 rfl size_xratio ?_)
            | (refine wpList_store_whole rfl 24 (.tmp 2) (.tmp 126) rfl gR oneR.cells rfl rfl 24 RVzero.cells XR.out rfl size_xratio (RV.xcells_one _) ?_; rintro w18 zm zs zb; replace HB : Sl (Below w.heap.size w w18) := ⟨below_mv HB.out zm (by have := HB.out.size; have := ORD.out; omega) HB.out.size⟩; replace XQ : Sl (Blk w18 gQ 24 oneR.cells) := ⟨XQ.out.mv zm (by have := XQ.out.lt; have := ORD.out; omega)⟩; replace XW : Sl (Blk w18 gW 9 (strs (xwordsB s)).toArray) := ⟨XW.out.mv zm (by have := XW.out.lt; have := ORD.out; omega)⟩; replace XR : Sl (Blk w18 gR 24 oneR.cells) := ⟨zb⟩; clear zm zs zb))
          (try simp only [Exit.inBlock, Exit.then]); refine bodyPost_ret (results_rowR rfl _ _ gR _ _ _ rfl XR.out Tryz.underlying24 rfl size_xratio) rfl ?_
          exact ⟨by rw [HV.out]; rfl, HB.out⟩
        · have hkI : decide ((k : Int) < (n : Int)) = false := decide_eq_false (by omega)
          go_wp2_with ((with_reducible show wpList _ _ _ _ _ _); first
            | (refine wpList_load_whole rfl 24 (.tmp 4) rfl gQ rfl 24 oneR.cells _ XQ.out Tryz.underlying24 rfl size_xratio ?_))
          refine (HTX.out _ (HT.out.below HB.out) (HF.out.below HB.out)).mono ?_; rintro e w39 ⟨rfl, hb⟩; replace HB : Sl (Below w.heap.size w w39) := ⟨HB.out.trans (hb.mono HB.out.size)⟩; replace XR : Sl (Blk w39 gR 24 RVzero.cells) := ⟨XR.out.below hb XR.out.lt⟩; replace XQ : Sl (Blk w39 gQ 24 oneR.cells) := ⟨XQ.out.below hb XQ.out.lt⟩; replace XW : Sl (Blk w39 gW 9 (strs (xwordsB s)).toArray) := ⟨XW.out.below hb XW.out.lt⟩; clear hb
          go_wp2_with ((with_reducible show wpList _ _ _ _ _ _); first
            | (refine wpList_load_whole rfl 24 (.tmp 4) rfl gQ rfl 24 oneR.cells _ XQ.out Tryz.underlying24 rfl size_xratio ?_)
            | (refine wpList_store_whole rfl 24 (.tmp 2) (.tmp 126) rfl gR oneR.cells rfl rfl 24 RVzero.cells XR.out rfl size_xratio (RV.xcells_one _) ?_; rintro w40 zm zs zb; replace HB : Sl (Below w.heap.size w w40) := ⟨below_mv HB.out zm (by have := HB.out.size; have := ORD.out; omega) HB.out.size⟩; replace XQ : Sl (Blk w40 gQ 24 oneR.cells) := ⟨XQ.out.mv zm (by have := XQ.out.lt; have := ORD.out; omega)⟩; replace XW : Sl (Blk w40 gW 9 (strs (xwordsB s)).toArray) := ⟨XW.out.mv zm (by have := XW.out.lt; have := ORD.out; omega)⟩; replace XR : Sl (Blk w40 gR 24 oneR.cells) := ⟨zb⟩; clear zm zs zb))
          (try simp only [Exit.inBlock, Exit.then]); refine bodyPost_ret (results_rowR rfl _ _ gR _ _ _ rfl XR.out Tryz.underlying24 rfl size_xratio) rfl ?_
          exact ⟨by rw [HV.out]; rfl, HB.out⟩
    · have hq : (s.toList == [49]) = false := (by rw [beq_eq_false_iff_ne, Go.ByteArray.toList_eq]; exact h1); have HN1 : Sl _ := ⟨h1⟩; clear h1; have HSP : Sl _ := ⟨fun (W : World) (h : ParX W) => xsplit_any s HL.out W h⟩; go_enter Tryz.func7, Tryz.ntmps7
      go_wp2_with ((with_reducible show wpList _ _ _ _ _ _); first
        | (refine wpList_alloc_new 2 rfl rfl 24 rfl RVzero.cells alloc_xratio ?_; rintro w91 gR zg zm zs zb; have ORD : Sl (w.heap.size ≤ gR) := ⟨by have := HB.out.size; omega⟩; replace HB : Sl (Below w.heap.size w w91) := ⟨below_mv HB.out zm (by have := HB.out.size; have := ORD.out; omega) HB.out.size⟩; have XR : Sl (Blk w91 gR 24 RVzero.cells) := ⟨zb⟩; clear zg zm zs zb)
        | (refine wpList_alloc_new 4 rfl rfl 24 rfl RVzero.cells alloc_xratio ?_; rintro w92 gQ zg zm zs zb; replace ORD : Sl (w.heap.size ≤ gR ∧ gR < gQ) := ⟨by have := HB.out.size; have := ORD.out; have := XR.out.lt; omega⟩; replace HB : Sl (Below w.heap.size w w92) := ⟨below_mv HB.out zm (by have := HB.out.size; have := ORD.out; omega) HB.out.size⟩; replace XR : Sl (Blk w92 gR 24 RVzero.cells) := ⟨XR.out.mv zm (by have := XR.out.lt; have := ORD.out; omega)⟩; have XQ : Sl (Blk w92 gQ 24 RVzero.cells) := ⟨zb⟩; clear zg zm zs zb)
        | (refine wpList_store_whole rfl 24 (.tmp 4) (.tmp 24) rfl gQ oneR.cells rfl rfl 24 RVzero.cells XQ.out rfl size_xratio (RV.xcells_one _) ?_; rintro w93 zm zs zb; replace HB : Sl (Below w.heap.size w w93) := ⟨below_mv HB.out zm (by have := HB.out.size; have := ORD.out; omega) HB.out.size⟩; replace XR : Sl (Blk w93 gR 24 RVzero.cells) := ⟨XR.out.mv zm (by have := XR.out.lt; have := ORD.out; omega)⟩; replace XQ : Sl (Blk w93 gQ 24 oneR.cells) := ⟨zb⟩; clear zm zs zb))
      have HSZ : Sl (gQ < w93.heap.size) := ⟨XQ.out.lt⟩; refine (HSP.out _ (HX.out.below HB.out)).mono ?_; rintro e w94 ⟨⟨gW, n, hn, rfl, zb, hge⟩, hb⟩; replace HB : Sl (Below w.heap.size w w94) := ⟨HB.out.trans (hb.mono HB.out.size)⟩; replace XR : Sl (Blk w94 gR 24 RVzero.cells) := ⟨XR.out.below hb XR.out.lt⟩; replace XQ : Sl (Blk w94 gQ 24 oneR.cells) := ⟨XQ.out.below hb XQ.out.lt⟩; have XW : Sl (Blk w94 gW 9 (strs (xwordsB s)).toArray) := ⟨zb⟩; replace ORD : Sl (w.heap.size ≤ gR ∧ gR < gQ ∧ gQ < gW) := ⟨by have := ORD.out; have := HSZ.out; omega⟩; have HN : Sl _ := ⟨hn⟩; clear hb zb hge hn; have hnm : n ≤ 201 := (by rw [HN.out]; exact xwords_le HL.out); go_wp2_with fail
      go_loopw [28] (fun s28 wr => ∃ (k : Nat) (q : RV), k ≤ n ∧ s28 = .int .i64 k ∧ Sl (JInv s k q) ∧ Sl (Below w.heap.size w wr) ∧ Sl (Blk wr gR 24 RVzero.cells) ∧ Sl (Blk wr gQ 24 q.cells) ∧ Sl (Blk wr gW 9 (strs (xwordsB s)).toArray)) (fun s28 _ => n - (RowKit.intOf s28).toNat)
      case atStart => exact ⟨0, oneR, Nat.zero_le _, rfl, ⟨JInv.start s⟩, HB, XR, XQ, XW⟩
      case round =>
        clear HB XR XQ XW; obtain ⟨k, q, hk, rfl, HP, HB, XR, XQ, XW⟩ := hrel
        by_cases hkn : k < n
        · have hkI : decide ((k : Int) < (n : Int)) = true := decide_eq_true (by omega); have hk0 : (0 : Int) ≤ (k : Int) := (by omega); have hk1 : (k : Int) < (n : Int) := (by omega); obtain ⟨x, hx⟩ : ∃ x, (xwordsB s)[k]? = some x := ⟨_, List.getElem?_eq_getElem (by rw [← HN.out]; exact hkn)⟩; have ck : wr.cell? ⟨gW, k, none⟩ = some (.string x) := (by rw [XW.out.cell, strs_cell hx]); have hxs := Nat.le_trans (xword_le hx) HL.out; have HXK : Sl _ := ⟨hx⟩; obtain ⟨⟨a1, a2, ok⟩, hc1⟩ : ∃ z, Lib.cut x.data.toList [94] = z := ⟨_, rfl⟩; have hz1 := cut_len x.data.toList [94]; obtain ⟨⟨a3, a4, ok2⟩, hc2⟩ : ∃ z, Lib.cut a2 [47] = z := ⟨_, rfl⟩; have hz2 := cut_len a2 [47]; have hxl : x.data.toList.length = x.size := (by rw [Array.length_toList]; rfl); rw [hc1] at hz1; rw [hc2] at hz2; simp only [] at hz1 hz2; obtain ⟨P, hP⟩ : ∃ z, rdX a1 = z := ⟨_, rfl⟩; obtain ⟨N, hN⟩ : ∃ z, rdX a3 = z := ⟨_, rfl⟩; have HCU1 : Sl _ := ⟨fun (W : World) (h : ParX W) => xcut_any x 94 hxs W h⟩; have HCU2 : Sl _ := ⟨fun (W : World) (h : ParX W) => xcut_any (xB a2) 47 (by rw [xB_size]; omega) W h⟩; have HRP : Sl _ := ⟨fun (W : World) (h : ParX W) => rRead_any (xB a1) (by rw [xB_size]; omega) W h⟩; have HRN : Sl _ := ⟨fun (W : World) (h : ParX W) => rRead_any (xB a3) (by rw [xB_size]; omega) W h⟩; rw [hc1] at HCU1; rw [xB_list, hc2] at HCU2; rw [xB_list, hP] at HRP; rw [xB_list, hN] at HRN; have ha4 : a4.length ≤ 200 := (by omega)
          have HPC : Sl (wdP x.data.toList = P ∧ wdN x.data.toList = N ∧ (Lib.cut x.data.toList [94]).2.2 = ok ∧ wdD x.data.toList = rdX (if a4 = [] then [49] else a4)) := ⟨by
            unfold wdP wdN wdD wdE; rw [hc1]; show rdX a1 = P ∧ rdX (Lib.cut a2 [47]).1 = N ∧ ok = ok ∧ rdX (if (Lib.cut a2 [47]).2.1 = [] then [49] else (Lib.cut a2 [47]).2.1) = _; rw [hc2]
            exact ⟨hP, hN, rfl, rfl⟩⟩
          clear hxs hx hc1 hz1 hc2 hz2 hxl hP hN; obtain ⟨A1, hA1⟩ : ∃ z, xB a1 = z := ⟨_, rfl⟩; obtain ⟨A2, hA2⟩ : ∃ z, xB a2 = z := ⟨_, rfl⟩; obtain ⟨A3, hA3⟩ : ∃ z, xB a3 = z := ⟨_, rfl⟩; simp only [] at HCU1 HCU2; rw [hA1, hA2] at HCU1; rw [hA2, hA3] at HCU2; rw [hA1] at HRP; rw [hA3] at HRN; clear hA1 hA2 hA3; go_wp2_with fail; refine (HCU1.out _ (HX.out.below HB.out)).mono ?_; rintro e w95 ⟨rfl, hb⟩; replace HB : Sl (Below w.heap.size w w95) := ⟨HB.out.trans (hb.mono HB.out.size)⟩; replace XR : Sl (Blk w95 gR 24 RVzero.cells) := ⟨XR.out.below hb XR.out.lt⟩; replace XQ : Sl (Blk w95 gQ 24 q.cells) := ⟨XQ.out.below hb XQ.out.lt⟩; replace XW : Sl (Blk w95 gW 9 (strs (xwordsB s)).toArray) := ⟨XW.out.below hb XW.out.lt⟩; clear hb; clear HCU1 ck; go_wp2_with fail; refine (HCU2.out _ (HX.out.below HB.out)).mono ?_; rintro e w96 ⟨rfl, hb⟩; replace HB : Sl (Below w.heap.size w w96) := ⟨HB.out.trans (hb.mono HB.out.size)⟩; replace XR : Sl (Blk w96 gR 24 RVzero.cells) := ⟨XR.out.below hb XR.out.lt⟩; replace XQ : Sl (Blk w96 gQ 24 q.cells) := ⟨XQ.out.below hb XQ.out.lt⟩; replace XW : Sl (Blk w96 gW 9 (strs (xwordsB s)).toArray) := ⟨XW.out.below hb XW.out.lt⟩; clear hb; clear HCU2
          go_upto_if 47 with fail
          go_cut [11] from 29 to 112 (fun s11 wx => ∃ A5 : ByteArray, s11 = .string A5 ∧ Sl (A5.size ≤ 200 ∧ wdD x.data.toList = rdX A5.data.toList) ∧ Sl (Below w.heap.size w wx) ∧ Sl (Blk wx gR 24 RVzero.cells) ∧ Sl (Blk wx gQ 24 q.cells) ∧ Sl (Blk wx gW 9 (strs (xwordsB s)).toArray))
          case first =>
            have hz0 : (xB []).toList = [] := (by rw [Go.ByteArray.toList_eq]; rfl); have hz0' := HPC.out.2.2.2; have HZ : Sl _ := ⟨And.intro hz0 hz0'⟩; have HA4 : Sl _ := ⟨ha4⟩; clear hz0 hz0' ha4; go_wp2_with fail
            all_goals rename_i h4
            all_goals go_meet
            all_goals first
              | exact ⟨_, rfl, ⟨by
                  show (xB a4).size ≤ 200
                  rw [xB_size]; exact HA4.out, by
                  show _ = rdX (xB a4).data.toList
                  have h44 : ¬ a4 = [] := fun h0 => by
                    rw [h0] at h4; have := HZ.out.1; simp [this] at h4
                  rw [HZ.out.2, if_neg h44, xB_list]⟩, HB, XR, XQ, XW⟩
              | exact ⟨_, rfl, ⟨by decide, by
                  have h44 : a4 = [] := by
                    have h5 : (xB a4).toList = [] := (by first | exact h4 | simpa using h4)
                    rwa [Go.ByteArray.toList_eq, xB_list] at h5
                  rw [HZ.out.2, if_pos h44]⟩, HB, XR, XQ, XW⟩
          case rest =>
            clear HB XR XQ XW; obtain ⟨A5, rfl, HA5, HB, XR, XQ, XW⟩ := hcut
            as_aux_lemma =>
              obtain ⟨D, hD⟩ : ∃ z, rdX A5.data.toList = z := ⟨_, rfl⟩; have HRD : Sl _ := ⟨fun (W : World) (h : ParX W) => rRead_any A5 HA5.out.1 W h⟩; rw [hD] at HRD; replace HPC : Sl (wdP x.data.toList = P ∧ wdN x.data.toList = N ∧ (Lib.cut x.data.toList [94]).2.2 = ok ∧ wdD x.data.toList = D) := ⟨⟨HPC.out.1, HPC.out.2.1, HPC.out.2.2.1, HA5.out.2.trans hD⟩⟩; clear hD ha4 HA5; obtain ⟨⟨b0, u0⟩, h0⟩ : ∃ z, ofS P 1 = z := ⟨_, rfl⟩; have HOF : Sl _ := ⟨fun (W : World) (h : PrT W) => ROf_any P 1 W h⟩; rw [h0] at HOF; have H0 : Sl _ := ⟨h0⟩; clear h0; go_wp2_with fail; refine (HRP.out _ (HX.out.below HB.out)).mono ?_; rintro e w97 ⟨rfl, hb⟩; replace HB : Sl (Below w.heap.size w w97) := ⟨HB.out.trans (hb.mono HB.out.size)⟩; replace XR : Sl (Blk w97 gR 24 RVzero.cells) := ⟨XR.out.below hb XR.out.lt⟩; replace XQ : Sl (Blk w97 gQ 24 q.cells) := ⟨XQ.out.below hb XQ.out.lt⟩; replace XW : Sl (Blk w97 gW 9 (strs (xwordsB s)).toArray) := ⟨XW.out.below hb XW.out.lt⟩; clear hb; clear HRP; go_wp2_with fail; refine (HOF.out _ (HT.out.below HB.out)).mono ?_; rintro e w98 ⟨hof, hb⟩; replace HB : Sl (Below w.heap.size w w98) := ⟨HB.out.trans (hb.mono HB.out.size)⟩; replace XR : Sl (Blk w98 gR 24 RVzero.cells) := ⟨XR.out.below hb XR.out.lt⟩; replace XQ : Sl (Blk w98 gQ 24 q.cells) := ⟨XQ.out.below hb XQ.out.lt⟩; replace XW : Sl (Blk w98 gW 9 (strs (xwordsB s)).toArray) := ⟨XW.out.below hb XW.out.lt⟩; clear hb; unfold OfRes at hof; subst hof; clear HOF
              go_wp2_with ((with_reducible show wpList _ _ _ _ _ _); first
                | (refine wpList_alloc_new 13 rfl rfl 24 rfl RVzero.cells alloc_xratio ?_; rintro w99 gB zg zm zs zb; replace ORD : Sl (w.heap.size ≤ gR ∧ gR < gQ ∧ gQ < gW ∧ gW < gB) := ⟨by have := HB.out.size; have := ORD.out; have := XR.out.lt; have := XQ.out.lt; have := XW.out.lt; omega⟩; replace HB : Sl (Below w.heap.size w w99) := ⟨below_mv HB.out zm (by have := HB.out.size; have := ORD.out; omega) HB.out.size⟩; replace XR : Sl (Blk w99 gR 24 RVzero.cells) := ⟨XR.out.mv zm (by have := XR.out.lt; have := ORD.out; omega)⟩; replace XQ : Sl (Blk w99 gQ 24 q.cells) := ⟨XQ.out.mv zm (by have := XQ.out.lt; have := ORD.out; omega)⟩; replace XW : Sl (Blk w99 gW 9 (strs (xwordsB s)).toArray) := ⟨XW.out.mv zm (by have := XW.out.lt; have := ORD.out; omega)⟩; have XB : Sl (Blk w99 gB 24 RVzero.cells) := ⟨zb⟩; clear zg zm zs zb)
                | (refine wpList_store_whole rfl 24 (.tmp 13) (.tmp 52) rfl gB b0.cells rfl rfl 24 RVzero.cells XB.out rfl size_xratio (RV.xcells_one _) ?_; rintro w100 zm zs zb; replace HB : Sl (Below w.heap.size w w100) := ⟨below_mv HB.out zm (by have := HB.out.size; have := ORD.out; omega) HB.out.size⟩; replace XR : Sl (Blk w100 gR 24 RVzero.cells) := ⟨XR.out.mv zm (by have := XR.out.lt; have := ORD.out; omega)⟩; replace XQ : Sl (Blk w100 gQ 24 q.cells) := ⟨XQ.out.mv zm (by have := XQ.out.lt; have := ORD.out; omega)⟩; replace XW : Sl (Blk w100 gW 9 (strs (xwordsB s)).toArray) := ⟨XW.out.mv zm (by have := XW.out.lt; have := ORD.out; omega)⟩; replace XB : Sl (Blk w100 gB 24 b0.cells) := ⟨zb⟩; clear zm zs zb))
              refine (HRN.out _ (HX.out.below HB.out)).mono ?_; rintro e w101 ⟨rfl, hb⟩; replace HB : Sl (Below w.heap.size w w101) := ⟨HB.out.trans (hb.mono HB.out.size)⟩; replace XR : Sl (Blk w101 gR 24 RVzero.cells) := ⟨XR.out.below hb XR.out.lt⟩; replace XQ : Sl (Blk w101 gQ 24 q.cells) := ⟨XQ.out.below hb XQ.out.lt⟩; replace XW : Sl (Blk w101 gW 9 (strs (xwordsB s)).toArray) := ⟨XW.out.below hb XW.out.lt⟩; replace XB : Sl (Blk w101 gB 24 b0.cells) := ⟨XB.out.below hb XB.out.lt⟩; clear hb; clear HRN; go_wp2_with fail; refine (HRD.out _ (HX.out.below HB.out)).mono ?_; rintro e w102 ⟨rfl, hb⟩; replace HB : Sl (Below w.heap.size w w102) := ⟨HB.out.trans (hb.mono HB.out.size)⟩; replace XR : Sl (Blk w102 gR 24 RVzero.cells) := ⟨XR.out.below hb XR.out.lt⟩; replace XQ : Sl (Blk w102 gQ 24 q.cells) := ⟨XQ.out.below hb XQ.out.lt⟩; replace XW : Sl (Blk w102 gW 9 (strs (xwordsB s)).toArray) := ⟨XW.out.below hb XW.out.lt⟩; replace XB : Sl (Blk w102 gB 24 b0.cells) := ⟨XB.out.below hb XB.out.lt⟩; clear hb; clear HRD
              cases ok with
              | false =>
                have HQ : Sl (r = (RVzero, 6)) := ⟨by
                  rw [← HR.out]; refine parR_miss HL.out (fun ⟨r0, h1, h2⟩ => ?_); obtain ⟨t1, t2, t3, x0, x1, x2, e1, e2, e3, e4⟩ := HP.out.good HN1.out HXK.out h1 h2; rw [HPC.out.2.2.1] at t1
                  cases t1⟩
                go_wp2_with ((with_reducible show wpList _ _ _ _ _ _); first
                  | (refine wpList_store_whole rfl 24 (.tmp 2) (.tmp 80) rfl gR RVzero.cells rfl rfl 24 RVzero.cells XR.out rfl size_xratio (RV.xcells_one _) ?_; rintro w103 zm zs zb; replace HB : Sl (Below w.heap.size w w103) := ⟨below_mv HB.out zm (by have := HB.out.size; have := ORD.out; omega) HB.out.size⟩; replace XQ : Sl (Blk w103 gQ 24 q.cells) := ⟨XQ.out.mv zm (by have := XQ.out.lt; have := ORD.out; omega)⟩; replace XW : Sl (Blk w103 gW 9 (strs (xwordsB s)).toArray) := ⟨XW.out.mv zm (by have := XW.out.lt; have := ORD.out; omega)⟩; replace XB : Sl (Blk w103 gB 24 b0.cells) := ⟨XB.out.mv zm (by have := XB.out.lt; have := ORD.out; omega)⟩; replace XR : Sl (Blk w103 gR 24 RVzero.cells) := ⟨zb⟩; clear zm zs zb))
                (try simp only [Exit.inBlock, Exit.then]); refine bodyPost_ret (results_rowR rfl _ _ gR _ _ _ rfl XR.out Tryz.underlying24 rfl size_xratio) rfl ?_
                exact ⟨by rw [HQ.out]; rfl, HB.out⟩
              | true =>
                by_cases hu0 : u0 = 0
                · skip; subst hu0
                  by_cases hn1 : N < -100000
                  · have qn1 : decide (N < -100000) = true := decide_eq_true hn1
                    have HQ : Sl (r = (RVzero, 6)) := ⟨by
                      rw [← HR.out]; refine parR_miss HL.out (fun ⟨r0, h1, h2⟩ => ?_); obtain ⟨t1, t2, t3, x0, x1, x2, e1, e2, e3, e4⟩ := HP.out.good HN1.out HXK.out h1 h2; rw [HPC.out.2.1] at t2
                      omega⟩
                    go_wp2_with ((with_reducible show wpList _ _ _ _ _ _); first
                      | (refine wpList_store_whole rfl 24 (.tmp 2) (.tmp 80) rfl gR RVzero.cells rfl rfl 24 RVzero.cells XR.out rfl size_xratio (RV.xcells_one _) ?_; rintro w124 zm zs zb; replace HB : Sl (Below w.heap.size w w124) := ⟨below_mv HB.out zm (by have := HB.out.size; have := ORD.out; omega) HB.out.size⟩; replace XQ : Sl (Blk w124 gQ 24 q.cells) := ⟨XQ.out.mv zm (by have := XQ.out.lt; have := ORD.out; omega)⟩; replace XW : Sl (Blk w124 gW 9 (strs (xwordsB s)).toArray) := ⟨XW.out.mv zm (by have := XW.out.lt; have := ORD.out; omega)⟩; replace XB : Sl (Blk w124 gB 24 b0.cells) := ⟨XB.out.mv zm (by have := XB.out.lt; have := ORD.out; omega)⟩; replace XR : Sl (Blk w124 gR 24 RVzero.cells) := ⟨zb⟩; clear zm zs zb))
                    (try simp only [Exit.inBlock, Exit.then]); refine bodyPost_ret (results_rowR rfl _ _ gR _ _ _ rfl XR.out Tryz.underlying24 rfl size_xratio) rfl ?_
                    exact ⟨by rw [HQ.out]; rfl, HB.out⟩
                  · have qn1 : decide (N < -100000) = false := decide_eq_false hn1
                    by_cases hn2 : 100000 < N
                    · have qn2 : decide (100000 < N) = true := decide_eq_true hn2
                      have HQ : Sl (r = (RVzero, 6)) := ⟨by
                        rw [← HR.out]; refine parR_miss HL.out (fun ⟨r0, h1, h2⟩ => ?_); obtain ⟨t1, t2, t3, x0, x1, x2, e1, e2, e3, e4⟩ := HP.out.good HN1.out HXK.out h1 h2; rw [HPC.out.2.1] at t2
                        omega⟩
                      go_wp2_with ((with_reducible show wpList _ _ _ _ _ _); first
                        | (refine wpList_store_whole rfl 24 (.tmp 2) (.tmp 80) rfl gR RVzero.cells rfl rfl 24 RVzero.cells XR.out rfl size_xratio (RV.xcells_one _) ?_; rintro w145 zm zs zb; replace HB : Sl (Below w.heap.size w w145) := ⟨below_mv HB.out zm (by have := HB.out.size; have := ORD.out; omega) HB.out.size⟩; replace XQ : Sl (Blk w145 gQ 24 q.cells) := ⟨XQ.out.mv zm (by have := XQ.out.lt; have := ORD.out; omega)⟩; replace XW : Sl (Blk w145 gW 9 (strs (xwordsB s)).toArray) := ⟨XW.out.mv zm (by have := XW.out.lt; have := ORD.out; omega)⟩; replace XB : Sl (Blk w145 gB 24 b0.cells) := ⟨XB.out.mv zm (by have := XB.out.lt; have := ORD.out; omega)⟩; replace XR : Sl (Blk w145 gR 24 RVzero.cells) := ⟨zb⟩; clear zm zs zb))
                      (try simp only [Exit.inBlock, Exit.then]); refine bodyPost_ret (results_rowR rfl _ _ gR _ _ _ rfl XR.out Tryz.underlying24 rfl size_xratio) rfl ?_
                      exact ⟨by rw [HQ.out]; rfl, HB.out⟩
                    · have qn2 : decide (100000 < N) = false := decide_eq_false hn2
                      by_cases hd1 : D < 1
                      · have qd1 : decide (D < 1) = true := decide_eq_true hd1
                        have HQ : Sl (r = (RVzero, 6)) := ⟨by
                          rw [← HR.out]; refine parR_miss HL.out (fun ⟨r0, h1, h2⟩ => ?_); obtain ⟨t1, t2, t3, x0, x1, x2, e1, e2, e3, e4⟩ := HP.out.good HN1.out HXK.out h1 h2; rw [HPC.out.2.2.2] at t3
                          omega⟩
                        go_wp2_with ((with_reducible show wpList _ _ _ _ _ _); first
                          | (refine wpList_store_whole rfl 24 (.tmp 2) (.tmp 80) rfl gR RVzero.cells rfl rfl 24 RVzero.cells XR.out rfl size_xratio (RV.xcells_one _) ?_; rintro w166 zm zs zb; replace HB : Sl (Below w.heap.size w w166) := ⟨below_mv HB.out zm (by have := HB.out.size; have := ORD.out; omega) HB.out.size⟩; replace XQ : Sl (Blk w166 gQ 24 q.cells) := ⟨XQ.out.mv zm (by have := XQ.out.lt; have := ORD.out; omega)⟩; replace XW : Sl (Blk w166 gW 9 (strs (xwordsB s)).toArray) := ⟨XW.out.mv zm (by have := XW.out.lt; have := ORD.out; omega)⟩; replace XB : Sl (Blk w166 gB 24 b0.cells) := ⟨XB.out.mv zm (by have := XB.out.lt; have := ORD.out; omega)⟩; replace XR : Sl (Blk w166 gR 24 RVzero.cells) := ⟨zb⟩; clear zm zs zb))
                        (try simp only [Exit.inBlock, Exit.then]); refine bodyPost_ret (results_rowR rfl _ _ gR _ _ _ rfl XR.out Tryz.underlying24 rfl size_xratio) rfl ?_
                        exact ⟨by rw [HQ.out]; rfl, HB.out⟩
                      · have qd1 : decide (D < 1) = false := decide_eq_false hd1
                        by_cases hd2 : 1000 < D
                        · have qd2 : decide (1000 < D) = true := decide_eq_true hd2
                          have HQ : Sl (r = (RVzero, 6)) := ⟨by
                            rw [← HR.out]; refine parR_miss HL.out (fun ⟨r0, h1, h2⟩ => ?_); obtain ⟨t1, t2, t3, x0, x1, x2, e1, e2, e3, e4⟩ := HP.out.good HN1.out HXK.out h1 h2; rw [HPC.out.2.2.2] at t3
                            omega⟩
                          go_wp2_with ((with_reducible show wpList _ _ _ _ _ _); first
                            | (refine wpList_store_whole rfl 24 (.tmp 2) (.tmp 80) rfl gR RVzero.cells rfl rfl 24 RVzero.cells XR.out rfl size_xratio (RV.xcells_one _) ?_; rintro w187 zm zs zb; replace HB : Sl (Below w.heap.size w w187) := ⟨below_mv HB.out zm (by have := HB.out.size; have := ORD.out; omega) HB.out.size⟩; replace XQ : Sl (Blk w187 gQ 24 q.cells) := ⟨XQ.out.mv zm (by have := XQ.out.lt; have := ORD.out; omega)⟩; replace XW : Sl (Blk w187 gW 9 (strs (xwordsB s)).toArray) := ⟨XW.out.mv zm (by have := XW.out.lt; have := ORD.out; omega)⟩; replace XB : Sl (Blk w187 gB 24 b0.cells) := ⟨XB.out.mv zm (by have := XB.out.lt; have := ORD.out; omega)⟩; replace XR : Sl (Blk w187 gR 24 RVzero.cells) := ⟨zb⟩; clear zm zs zb))
                          (try simp only [Exit.inBlock, Exit.then]); refine bodyPost_ret (results_rowR rfl _ _ gR _ _ _ rfl XR.out Tryz.underlying24 rfl size_xratio) rfl ?_
                          exact ⟨by rw [HQ.out]; rfl, HB.out⟩
                        · have qd2 : decide (1000 < D) = false := decide_eq_false hd2; obtain ⟨hb0, hbd⟩ := of_one_bd H0.out; have HMB : Sl _ := ⟨mulP_bd (D := D) (N := N) hbd ⟨by omega, by omega⟩⟩; have HMM : Sl _ := ⟨mulP_made (D := D) (N := N) hbd ⟨by omega, by omega⟩⟩; have HD1 : Sl (1 ≤ D ∧ D ≤ 1000) := ⟨by omega⟩
                          replace XB : Sl (Blk w102 gB 24 (mulP b0 N 0 1).cells) := ⟨by
                            have e := mulP_zero (b := b0) N; rw [hb0] at e
                            rw [e]; exact XB.out⟩
                          clear hb0 hbd; go_wp2_with fail
                          go_loopw [81] (fun s81 wv => ∃ (i : Nat), i ≤ 6 ∧ s81 = .int .i64 i ∧ Sl (Below w.heap.size w wv) ∧ Sl (Blk wv gR 24 RVzero.cells) ∧ Sl (Blk wv gQ 24 q.cells) ∧ Sl (Blk wv gW 9 (strs (xwordsB s)).toArray) ∧ Sl (Blk wv gB 24 (mulP b0 N i 1).cells)) (fun s81 _ => 6 - (RowKit.intOf s81).toNat)
                          case atStart => exact ⟨0, Nat.zero_le _, rfl, HB, XR, XQ, XW, XB⟩
                          case round =>
                            clear HB XR XQ XW XB; obtain ⟨i, hi, rfl, HB, XR, XQ, XW, XB⟩ := hrel
                            by_cases hi6 : i < 6
                            · have hiI : decide ((i : Int) < 6) = true := decide_eq_true (by omega); have hi0 : (0 : Int) ≤ (i : Int) := (by omega); have hi1 : (i : Int) < 6 := (by omega); have hzb := HMB.out i hi6; obtain ⟨z, hz⟩ : ∃ z, b0.num i = z := ⟨_, rfl⟩; have ci : wr.cell? ⟨gB, i, none⟩ = some (.int .i64 z) := (by rw [XB.out.cell, mulP_cell _ _ hi6, hz]); have hst : (mulP b0 N i 1).cells.setIfInBounds i (.int .i64 (z * N)) = (mulP b0 N (i + 1) 1).cells := (by rw [← hz]; exact mulP_step _ _ hi6); have HST : Sl _ := ⟨hst⟩; rw [hz] at hzb; obtain ⟨m, hm⟩ : ∃ m, z * N = m := ⟨_, rfl⟩; have hwm : IntKind.i64.wrap (z * N) = m := (by rw [hm, IntKind.wrap_i64]; omega); rw [hm] at HST; rw [hm] at hzb; clear hz hst
                              go_wp2_with ((with_reducible show wpList _ _ _ _ _ _); first
                                | (refine wpList_store_int rfl 3 (.tmp 91) (.tmp 89) rfl gB i .i64 m rfl rfl 24 (mulP b0 N i 1).cells (mulP b0 N (i + 1) 1).cells XB.out (by show i < 7; omega) HST.out size_xint ?_; rintro w208 zm zs zb; replace HB : Sl (Below w.heap.size w w208) := ⟨below_mv HB.out zm (by have := HB.out.size; have := ORD.out; omega) HB.out.size⟩; replace XR : Sl (Blk w208 gR 24 RVzero.cells) := ⟨XR.out.mv zm (by have := XR.out.lt; have := ORD.out; omega)⟩; replace XQ : Sl (Blk w208 gQ 24 q.cells) := ⟨XQ.out.mv zm (by have := XQ.out.lt; have := ORD.out; omega)⟩; replace XW : Sl (Blk w208 gW 9 (strs (xwordsB s)).toArray) := ⟨XW.out.mv zm (by have := XW.out.lt; have := ORD.out; omega)⟩; replace XB : Sl (Blk w208 gB 24 (mulP b0 N (i + 1) 1).cells) := ⟨zb⟩; clear zm zs zb))
                              exact ⟨⟨i + 1, by omega, by go_num, HB, XR, XQ, XW, XB⟩, by simp [RowKit.intOf]; omega⟩
                            · obtain rfl : i = 6 := (by omega); clear hi hi6; obtain ⟨⟨b1, u1⟩, h1⟩ : ∃ z, madeS (mulP b0 N 6 D) = z := ⟨_, rfl⟩
                              have HMD : Sl (∀ W : World, Calls Tryz.prog 28 #[.agg (mulP b0 N 6 1).nums, .int .i64 D] W fun e w' => OfRes e (b1, u1) ∧ Below W.heap.size W w') := ⟨fun W => by
                                have := rmade_any (mulP b0 N 6 D) W (by exact HD1.out.1) (by show D ≤ 1000000; have := HD1.out; omega) HMM.out; rw [h1] at this
                                exact this⟩
                              have H1 : Sl _ := ⟨h1⟩; clear h1
                              go_wp2_with ((with_reducible show wpList _ _ _ _ _ _); first
                                | (refine wpList_load_part rfl 22 (.tmp 94) rfl gB (0) rfl 24 (mulP b0 N 6 1).cells (mulP b0 N 6 1).nums _ XB.out rfl Tryz.underlying22 rfl size_xnums ?_))
                              refine (HMD.out _).mono ?_; rintro e w229 ⟨hof, hb⟩; replace HB : Sl (Below w.heap.size w w229) := ⟨HB.out.trans (hb.mono HB.out.size)⟩; replace XR : Sl (Blk w229 gR 24 RVzero.cells) := ⟨XR.out.below hb XR.out.lt⟩; replace XQ : Sl (Blk w229 gQ 24 q.cells) := ⟨XQ.out.below hb XQ.out.lt⟩; replace XW : Sl (Blk w229 gW 9 (strs (xwordsB s)).toArray) := ⟨XW.out.below hb XW.out.lt⟩; replace XB : Sl (Blk w229 gB 24 (mulP b0 N 6 1).cells) := ⟨XB.out.below hb XB.out.lt⟩; clear hb; unfold OfRes at hof; subst hof; clear HMD
                              by_cases hu1 : u1 = 0
                              · subst hu1; obtain ⟨⟨q', u2⟩, h2⟩ : ∃ z, joinS q b1 1 = z := ⟨_, rfl⟩; have HMU : Sl _ := ⟨fun W : World => vMul_any q b1 W⟩; rw [h2] at HMU; have H2 : Sl _ := ⟨h2⟩; clear h2
                                go_wp2_with ((with_reducible show wpList _ _ _ _ _ _); first
                                  | (refine wpList_store_whole rfl 24 (.tmp 13) (.tmp 98) rfl gB b1.cells rfl rfl 24 (mulP b0 N 6 1).cells XB.out rfl size_xratio (RV.xcells_one _) ?_; rintro w230 zm zs zb; replace HB : Sl (Below w.heap.size w w230) := ⟨below_mv HB.out zm (by have := HB.out.size; have := ORD.out; omega) HB.out.size⟩; replace XR : Sl (Blk w230 gR 24 RVzero.cells) := ⟨XR.out.mv zm (by have := XR.out.lt; have := ORD.out; omega)⟩; replace XQ : Sl (Blk w230 gQ 24 q.cells) := ⟨XQ.out.mv zm (by have := XQ.out.lt; have := ORD.out; omega)⟩; replace XW : Sl (Blk w230 gW 9 (strs (xwordsB s)).toArray) := ⟨XW.out.mv zm (by have := XW.out.lt; have := ORD.out; omega)⟩; replace XB : Sl (Blk w230 gB 24 b1.cells) := ⟨zb⟩; clear zm zs zb)
                                  | (refine wpList_load_whole rfl 24 (.tmp 4) rfl gQ rfl 24 q.cells _ XQ.out Tryz.underlying24 rfl size_xratio ?_)
                                  | (refine wpList_load_whole rfl 24 (.tmp 13) rfl gB rfl 24 b1.cells _ XB.out Tryz.underlying24 rfl size_xratio ?_))
                                refine (HMU.out _).mono ?_; rintro e w231 ⟨hof, hb⟩; replace HB : Sl (Below w.heap.size w w231) := ⟨HB.out.trans (hb.mono HB.out.size)⟩; replace XR : Sl (Blk w231 gR 24 RVzero.cells) := ⟨XR.out.below hb XR.out.lt⟩; replace XQ : Sl (Blk w231 gQ 24 q.cells) := ⟨XQ.out.below hb XQ.out.lt⟩; replace XW : Sl (Blk w231 gW 9 (strs (xwordsB s)).toArray) := ⟨XW.out.below hb XW.out.lt⟩; replace XB : Sl (Blk w231 gB 24 b1.cells) := ⟨XB.out.below hb XB.out.lt⟩; clear hb; unfold OfRes at hof; subst hof; clear HMU
                                by_cases hu2 : u2 = 0
                                · subst hu2
                                  have HPN : Sl (JInv s (k + 1) q') := ⟨by
                                    obtain ⟨p1, p2, p3, p4⟩ := HPC.out
                                    exact HP.out.next HN1.out HXK.out (by rw [p4]; exact HD1.out.1) (by rw [p1]; exact H0.out) (by rw [p2, p4]; exact H1.out) H2.out⟩
                                  go_wp2_with ((with_reducible show wpList _ _ _ _ _ _); first
                                    | (refine wpList_store_whole rfl 24 (.tmp 4) (.tmp 107) rfl gQ q'.cells rfl rfl 24 q.cells XQ.out rfl size_xratio (RV.xcells_one _) ?_; rintro w232 zm zs zb; replace HB : Sl (Below w.heap.size w w232) := ⟨below_mv HB.out zm (by have := HB.out.size; have := ORD.out; omega) HB.out.size⟩; replace XR : Sl (Blk w232 gR 24 RVzero.cells) := ⟨XR.out.mv zm (by have := XR.out.lt; have := ORD.out; omega)⟩; replace XW : Sl (Blk w232 gW 9 (strs (xwordsB s)).toArray) := ⟨XW.out.mv zm (by have := XW.out.lt; have := ORD.out; omega)⟩; replace XB : Sl (Blk w232 gB 24 b1.cells) := ⟨XB.out.mv zm (by have := XB.out.lt; have := ORD.out; omega)⟩; replace XQ : Sl (Blk w232 gQ 24 q'.cells) := ⟨zb⟩; clear zm zs zb))
                                  exact ⟨⟨k + 1, q', by omega, by go_num, HPN, HB, XR, XQ, XW⟩, by simp [RowKit.intOf]; omega⟩
                                · have hz2 : ((u2 : Int) != 0) = true := (by rw [bne_iff_ne]; exact hu2)
                                  have HQ : Sl (r = (RVzero, 6)) := ⟨by
                                    rw [← HR.out]; refine parR_miss HL.out (fun ⟨r0, h1, h2⟩ => ?_); obtain ⟨t1, t2, t3, x0, x1, x2, e1, e2, e3, e4⟩ := HP.out.good HN1.out HXK.out h1 h2; rw [HPC.out.1, H0.out] at e1; injection e1 with e1 _
                                    subst e1; rw [HPC.out.2.1, HPC.out.2.2.2, H1.out] at e2; injection e2 with e2 _
                                    subst e2; rw [H2.out] at e3; injection e3 with _ e3
                                    exact hu2 e3⟩
                                  go_wp2_with ((with_reducible show wpList _ _ _ _ _ _); first
                                    | (refine wpList_store_whole rfl 24 (.tmp 4) (.tmp 107) rfl gQ q'.cells rfl rfl 24 q.cells XQ.out rfl size_xratio (RV.xcells_one _) ?_; rintro w293 zm zs zb; replace HB : Sl (Below w.heap.size w w293) := ⟨below_mv HB.out zm (by have := HB.out.size; have := ORD.out; omega) HB.out.size⟩; replace XR : Sl (Blk w293 gR 24 RVzero.cells) := ⟨XR.out.mv zm (by have := XR.out.lt; have := ORD.out; omega)⟩; replace XW : Sl (Blk w293 gW 9 (strs (xwordsB s)).toArray) := ⟨XW.out.mv zm (by have := XW.out.lt; have := ORD.out; omega)⟩; replace XB : Sl (Blk w293 gB 24 b1.cells) := ⟨XB.out.mv zm (by have := XB.out.lt; have := ORD.out; omega)⟩; replace XQ : Sl (Blk w293 gQ 24 q'.cells) := ⟨zb⟩; clear zm zs zb)
                                    | (refine wpList_store_whole rfl 24 (.tmp 2) (.tmp 111) rfl gR RVzero.cells rfl rfl 24 RVzero.cells XR.out rfl size_xratio (RV.xcells_one _) ?_; rintro w294 zm zs zb; replace HB : Sl (Below w.heap.size w w294) := ⟨below_mv HB.out zm (by have := HB.out.size; have := ORD.out; omega) HB.out.size⟩; replace XQ : Sl (Blk w294 gQ 24 q'.cells) := ⟨XQ.out.mv zm (by have := XQ.out.lt; have := ORD.out; omega)⟩; replace XW : Sl (Blk w294 gW 9 (strs (xwordsB s)).toArray) := ⟨XW.out.mv zm (by have := XW.out.lt; have := ORD.out; omega)⟩; replace XB : Sl (Blk w294 gB 24 b1.cells) := ⟨XB.out.mv zm (by have := XB.out.lt; have := ORD.out; omega)⟩; replace XR : Sl (Blk w294 gR 24 RVzero.cells) := ⟨zb⟩; clear zm zs zb))
                                  (try simp only [Exit.inBlock, Exit.then]); refine bodyPost_ret (results_rowR rfl _ _ gR _ _ _ rfl XR.out Tryz.underlying24 rfl size_xratio) rfl ?_
                                  exact ⟨by rw [HQ.out]; rfl, HB.out⟩
                              · have hz2 : ((u1 : Int) != 0) = true := (by rw [bne_iff_ne]; exact hu1)
                                have HQ : Sl (r = (RVzero, 6)) := ⟨by
                                  rw [← HR.out]; refine parR_miss HL.out (fun ⟨r0, h1, h2⟩ => ?_); obtain ⟨t1, t2, t3, x0, x1, x2, e1, e2, e3, e4⟩ := HP.out.good HN1.out HXK.out h1 h2; rw [HPC.out.1, H0.out] at e1; injection e1 with e1 _
                                  subst e1; rw [HPC.out.2.1, HPC.out.2.2.2, H1.out] at e2; injection e2 with _ e2
                                  exact hu1 e2⟩
                                go_wp2_with ((with_reducible show wpList _ _ _ _ _ _); first
                                  | (refine wpList_store_whole rfl 24 (.tmp 13) (.tmp 98) rfl gB b1.cells rfl rfl 24 (mulP b0 N 6 1).cells XB.out rfl size_xratio (RV.xcells_one _) ?_; rintro w355 zm zs zb; replace HB : Sl (Below w.heap.size w w355) := ⟨below_mv HB.out zm (by have := HB.out.size; have := ORD.out; omega) HB.out.size⟩; replace XR : Sl (Blk w355 gR 24 RVzero.cells) := ⟨XR.out.mv zm (by have := XR.out.lt; have := ORD.out; omega)⟩; replace XQ : Sl (Blk w355 gQ 24 q.cells) := ⟨XQ.out.mv zm (by have := XQ.out.lt; have := ORD.out; omega)⟩; replace XW : Sl (Blk w355 gW 9 (strs (xwordsB s)).toArray) := ⟨XW.out.mv zm (by have := XW.out.lt; have := ORD.out; omega)⟩; replace XB : Sl (Blk w355 gB 24 b1.cells) := ⟨zb⟩; clear zm zs zb)
                                  | (refine wpList_store_whole rfl 24 (.tmp 2) (.tmp 102) rfl gR RVzero.cells rfl rfl 24 RVzero.cells XR.out rfl size_xratio (RV.xcells_one _) ?_; rintro w356 zm zs zb; replace HB : Sl (Below w.heap.size w w356) := ⟨below_mv HB.out zm (by have := HB.out.size; have := ORD.out; omega) HB.out.size⟩; replace XQ : Sl (Blk w356 gQ 24 q.cells) := ⟨XQ.out.mv zm (by have := XQ.out.lt; have := ORD.out; omega)⟩; replace XW : Sl (Blk w356 gW 9 (strs (xwordsB s)).toArray) := ⟨XW.out.mv zm (by have := XW.out.lt; have := ORD.out; omega)⟩; replace XB : Sl (Blk w356 gB 24 b1.cells) := ⟨XB.out.mv zm (by have := XB.out.lt; have := ORD.out; omega)⟩; replace XR : Sl (Blk w356 gR 24 RVzero.cells) := ⟨zb⟩; clear zm zs zb))
                                (try simp only [Exit.inBlock, Exit.then]); refine bodyPost_ret (results_rowR rfl _ _ gR _ _ _ rfl XR.out Tryz.underlying24 rfl size_xratio) rfl ?_
                                exact ⟨by rw [HQ.out]; rfl, HB.out⟩
                · have hz2 : ((u0 : Int) != 0) = true := (by rw [bne_iff_ne]; exact hu0)
                  have HQ : Sl (r = (RVzero, 6)) := ⟨by
                    rw [← HR.out]; refine parR_miss HL.out (fun ⟨r0, h1, h2⟩ => ?_); obtain ⟨t1, t2, t3, x0, x1, x2, e1, e2, e3, e4⟩ := HP.out.good HN1.out HXK.out h1 h2; rw [HPC.out.1, H0.out] at e1; injection e1 with _ e1
                    exact hu0 e1⟩
                  go_wp2_with ((with_reducible show wpList _ _ _ _ _ _); first
                    | (refine wpList_store_whole rfl 24 (.tmp 2) (.tmp 80) rfl gR RVzero.cells rfl rfl 24 RVzero.cells XR.out rfl size_xratio (RV.xcells_one _) ?_; rintro w437 zm zs zb; replace HB : Sl (Below w.heap.size w w437) := ⟨below_mv HB.out zm (by have := HB.out.size; have := ORD.out; omega) HB.out.size⟩; replace XQ : Sl (Blk w437 gQ 24 q.cells) := ⟨XQ.out.mv zm (by have := XQ.out.lt; have := ORD.out; omega)⟩; replace XW : Sl (Blk w437 gW 9 (strs (xwordsB s)).toArray) := ⟨XW.out.mv zm (by have := XW.out.lt; have := ORD.out; omega)⟩; replace XB : Sl (Blk w437 gB 24 b0.cells) := ⟨XB.out.mv zm (by have := XB.out.lt; have := ORD.out; omega)⟩; replace XR : Sl (Blk w437 gR 24 RVzero.cells) := ⟨zb⟩; clear zm zs zb))
                  (try simp only [Exit.inBlock, Exit.then]); refine bodyPost_ret (results_rowR rfl _ _ gR _ _ _ rfl XR.out Tryz.underlying24 rfl size_xratio) rfl ?_
                  exact ⟨by rw [HQ.out]; rfl, HB.out⟩
        · have hkI : decide ((k : Int) < (n : Int)) = false := decide_eq_false (by omega); have hkn2 : k = (xwordsB s).length := (by rw [← HN.out]; omega); have HLS : Sl _ := ⟨fun (r0 : RV) (h1 : checkS r0 = 0) (h2 : txR r0 = s.data.toList) => (hkn2 ▸ HP.out).last HN1.out h1 h2⟩; have HTX : Sl (∀ W : World, PrT W → FmtOK W → Calls Tryz.prog 5 #[.agg q.cells] W fun e w' => e = .returned (.tuple #[.string (xB (txR q)), .int .i64 0]) ∧ Below W.heap.size W w') := ⟨fun W h2 h3 => (xText_any q W h2 h3).mono fun e w' hh => ⟨hh.1.2 HP.out.1, hh.2⟩⟩; clear hkn2
          by_cases hx : xB (txR q) = s
          · have HQ : Sl (r = (q, 0)) := ⟨by rw [← HR.out]; exact parR_hit HL.out HP.out.1 (by rw [← hx, xB_list])⟩; rw [hx] at HTX; clear hx
            go_wp2_with ((with_reducible show wpList _ _ _ _ _ _); first
              | (refine wpList_load_whole rfl 24 (.tmp 4) rfl gQ rfl 24 q.cells _ XQ.out Tryz.underlying24 rfl size_xratio ?_))
            refine (HTX.out _ (HT.out.below HB.out) (HF.out.below HB.out)).mono ?_; rintro e w738 ⟨rfl, hb⟩; replace HB : Sl (Below w.heap.size w w738) := ⟨HB.out.trans (hb.mono HB.out.size)⟩; replace XR : Sl (Blk w738 gR 24 RVzero.cells) := ⟨XR.out.below hb XR.out.lt⟩; replace XQ : Sl (Blk w738 gQ 24 q.cells) := ⟨XQ.out.below hb XQ.out.lt⟩; replace XW : Sl (Blk w738 gW 9 (strs (xwordsB s)).toArray) := ⟨XW.out.below hb XW.out.lt⟩; clear hb
            go_wp2_with ((with_reducible show wpList _ _ _ _ _ _); first
              | (refine wpList_load_whole rfl 24 (.tmp 4) rfl gQ rfl 24 q.cells _ XQ.out Tryz.underlying24 rfl size_xratio ?_)
              | (refine wpList_store_whole rfl 24 (.tmp 2) (.tmp 126) rfl gR q.cells rfl rfl 24 RVzero.cells XR.out rfl size_xratio (RV.xcells_one _) ?_; rintro w739 zm zs zb; replace HB : Sl (Below w.heap.size w w739) := ⟨below_mv HB.out zm (by have := HB.out.size; have := ORD.out; omega) HB.out.size⟩; replace XQ : Sl (Blk w739 gQ 24 q.cells) := ⟨XQ.out.mv zm (by have := XQ.out.lt; have := ORD.out; omega)⟩; replace XW : Sl (Blk w739 gW 9 (strs (xwordsB s)).toArray) := ⟨XW.out.mv zm (by have := XW.out.lt; have := ORD.out; omega)⟩; replace XR : Sl (Blk w739 gR 24 q.cells) := ⟨zb⟩; clear zm zs zb))
            (try simp only [Exit.inBlock, Exit.then]); refine bodyPost_ret (results_rowR rfl _ _ gR _ _ _ rfl XR.out Tryz.underlying24 rfl size_xratio) rfl ?_
            exact ⟨by rw [HQ.out]; rfl, HB.out⟩
          · have HQ : Sl (r = (RVzero, 6)) := ⟨by
              rw [← HR.out]; refine parR_miss HL.out (fun ⟨r0, h1, h2⟩ => hx ?_); rw [HLS.out r0 h1 h2, h2]
              cases s; simp [xB]⟩
            obtain ⟨T, hT⟩ : ∃ x, xB (txR q) = x := ⟨_, rfl⟩; rw [hT] at HTX hx; have hq2 : (T.toList == s.toList) = false := (by rw [beq_eq_false_iff_ne]; exact fun h => hx (xbytes_eq h)); clear hx hT
            go_wp2_with ((with_reducible show wpList _ _ _ _ _ _); first
              | (refine wpList_load_whole rfl 24 (.tmp 4) rfl gQ rfl 24 q.cells _ XQ.out Tryz.underlying24 rfl size_xratio ?_))
            refine (HTX.out _ (HT.out.below HB.out) (HF.out.below HB.out)).mono ?_; rintro e w760 ⟨rfl, hb⟩; replace HB : Sl (Below w.heap.size w w760) := ⟨HB.out.trans (hb.mono HB.out.size)⟩; replace XR : Sl (Blk w760 gR 24 RVzero.cells) := ⟨XR.out.below hb XR.out.lt⟩; replace XQ : Sl (Blk w760 gQ 24 q.cells) := ⟨XQ.out.below hb XQ.out.lt⟩; replace XW : Sl (Blk w760 gW 9 (strs (xwordsB s)).toArray) := ⟨XW.out.below hb XW.out.lt⟩; clear hb
            go_wp2_with ((with_reducible show wpList _ _ _ _ _ _); first
              | (refine wpList_store_whole rfl 24 (.tmp 2) (.tmp 125) rfl gR RVzero.cells rfl rfl 24 RVzero.cells XR.out rfl size_xratio (RV.xcells_one _) ?_; rintro w761 zm zs zb; replace HB : Sl (Below w.heap.size w w761) := ⟨below_mv HB.out zm (by have := HB.out.size; have := ORD.out; omega) HB.out.size⟩; replace XQ : Sl (Blk w761 gQ 24 q.cells) := ⟨XQ.out.mv zm (by have := XQ.out.lt; have := ORD.out; omega)⟩; replace XW : Sl (Blk w761 gW 9 (strs (xwordsB s)).toArray) := ⟨XW.out.mv zm (by have := XW.out.lt; have := ORD.out; omega)⟩; replace XR : Sl (Blk w761 gR 24 RVzero.cells) := ⟨zb⟩; clear zm zs zb))
            (try simp only [Exit.inBlock, Exit.then]); refine bodyPost_ret (results_rowR rfl _ _ gR _ _ _ rfl XR.out Tryz.underlying24 rfl size_xratio) rfl ?_
            exact ⟨by rw [HQ.out]; rfl, HB.out⟩
end Go.Proofs.YtalodfjplegibaaGreatDoor
