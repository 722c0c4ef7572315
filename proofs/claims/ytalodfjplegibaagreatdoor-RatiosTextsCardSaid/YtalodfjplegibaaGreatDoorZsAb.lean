/- The reference of ratios: Parse. (Printed by genrxi.py.) -/
import Derived.Test.YtalodfjplegibaaGreatDoorZsA
import Derived.Test.YtalodfjplegibaaGreatDoorMulD
import Derived.Test.YtalodfjplegibaaGreatDoorHlb
namespace Go.Proofs.YtalodfjplegibaaGreatDoor
set_option linter.unusedSimpArgs false
open Go.RowKit
set_option linter.unusedVariables false
theorem alloc_xratio (w : World) : (Instr.alloc 24 true (.tuple #[])).run Tryz.prog w = .ok (.pointer (some ⟨w.heap.size, 0, none⟩)) (w.alloc (.cells RVzero.cells 24)) := by kernel_rfl
theorem size_xratio : (Tryz.prog.info? 24).map (·.size) = some 7 := by kernel_rfl
theorem size_xint : (Tryz.prog.info? 3).map (·.size) = some 1 := by kernel_rfl
theorem RV.xcells_one (r : RV) : r.cells.all (·.oneCell') = true := by unfold RV.cells; simp [Value.oneCell']
theorem termL_bd {L : List UInt8} {k n d : Int} {ng : Bool} {c : Nat} (h : termL L = some (k, ng, n, d, c)) : (0 ≤ k ∧ k < 6) ∧ (-1 ≤ n ∧ n < 1000000) ∧ (-1 ≤ d ∧ d < 1000000) ∧ 1 ≤ c ∧ c ≤ L.length := by
  have hk := pK_bd (nmV L) 6; have l1 := (nmR_le 6 L 0).2; unfold termL at h
  split at h
  · cases h
  · rename_i h0; have hk2 : pK (nmV L) 6 < 6 := hk.2
    split at h
    · cases h
    · rename_i b L2 hd; have e1 := congrArg List.length hd; rw [List.length_drop, List.length_cons] at e1
      split at h
      · split at h
        · injection h with h; injection h with e1' h; injection h with _ h; injection h with e2 h; injection h with e3 e4
          have := nmV_bd ([] : List UInt8); have := (nmR_le 6 ([] : List UInt8) 0).2; rw [List.length_nil] at *
          subst e1' e2 e3 e4; refine ⟨⟨by omega, by omega⟩, ⟨by omega, by omega⟩, ⟨by omega, by omega⟩, by omega, by omega⟩
        · rename_i x L3; rw [List.length_cons] at e1
          split at h
          · have l2 := (nmR_le 6 L3 0).2; have b2 := nmV_bd L3
            split at h
            · injection h with h; injection h with e1' h; injection h with _ h; injection h with e2 h; injection h with e3 e4
              subst e1' e2 e3 e4; refine ⟨⟨by omega, by omega⟩, ⟨by omega, by omega⟩, ⟨by omega, by omega⟩, by omega, by omega⟩
            · rename_i f L5 hd2; have e5 := congrArg List.length hd2; rw [List.length_drop, List.length_cons] at e5; have l5 := (nmR_le 6 L5 0).2; have b5 := nmV_bd L5
              split at h
              · injection h with h; injection h with e1' h; injection h with _ h; injection h with e2 h; injection h with e3 e4
                subst e1' e2 e3 e4; refine ⟨⟨by omega, by omega⟩, ⟨by omega, by omega⟩, ⟨by omega, by omega⟩, by omega, by omega⟩
              · injection h with h; injection h with e1' h; injection h with _ h; injection h with e2 h; injection h with e3 e4
                subst e1' e2 e3 e4; refine ⟨⟨by omega, by omega⟩, ⟨by omega, by omega⟩, ⟨by omega, by omega⟩, by omega, by omega⟩
          · have l2 := (nmR_le 6 (x :: L3) 0).2; have b2 := nmV_bd (x :: L3); rw [List.length_cons] at l2
            split at h
            · injection h with h; injection h with e1' h; injection h with _ h; injection h with e2 h; injection h with e3 e4
              subst e1' e2 e3 e4; refine ⟨⟨by omega, by omega⟩, ⟨by omega, by omega⟩, ⟨by omega, by omega⟩, by omega, by omega⟩
            · rename_i f L5 hd2; have e5 := congrArg List.length hd2; rw [List.length_drop, List.length_cons, List.length_cons] at e5; have l5 := (nmR_le 6 L5 0).2; have b5 := nmV_bd L5
              split at h
              · injection h with h; injection h with e1' h; injection h with _ h; injection h with e2 h; injection h with e3 e4
                subst e1' e2 e3 e4; refine ⟨⟨by omega, by omega⟩, ⟨by omega, by omega⟩, ⟨by omega, by omega⟩, by omega, by omega⟩
              · injection h with h; injection h with e1' h; injection h with _ h; injection h with e2 h; injection h with e3 e4
                subst e1' e2 e3 e4; refine ⟨⟨by omega, by omega⟩, ⟨by omega, by omega⟩, ⟨by omega, by omega⟩, by omega, by omega⟩
      · cases h
theorem join_good {a b q : RV} (ha : checkS a = 0) (hb : checkS b = 0) (h : joinS a b 1 = (q, 0)) : checkS q = 0 := by
  have e0 : firstE (checkS a) (checkS b) = 0 := (by unfold firstE; rw [if_pos ha, hb]); unfold joinS at h; rw [if_pos e0] at h; have hg := joinR_good ha hb (.inl rfl); have hm := madeS_check _ hg.1
  by_cases hc : checkS (mkR (joinR a b 1)) = 0
  · rw [hm.1 hc] at h; injection h with h1 _
    rw [← h1]; exact hc
  · rw [hm.2 hc] at h; injection h with _ h2
    exact absurd h2 (by decide)
theorem one_check : checkS oneR = 0 := check_of (by decide) (by decide) (fun i hi => by unfold oneR; rw [RV.of_num _ _ hi]; exact ⟨by decide, by decide⟩) one_gcd
theorem one_text : txR oneR = [49] := by unfold txR; rw [if_pos (by decide)]
def PInv (s : ByteArray) (a : Nat) (q : RV) : Prop := checkS q = 0 ∧ ∀ r, checkS r = 0 → txR r = s.data.toList →
  ∃ j, At r j q ∧ ((j < (termsN r 6).length ∧ s.data.toList.drop a = Lib.join ((wdsR r).drop j) [32]) ∨ (j = (termsN r 6).length ∧ s.size ≤ a ∧ 0 < a))
theorem PInv.start {s : ByteArray} (h : s.data.toList ≠ [49]) : PInv s 0 oneR := ⟨one_check, fun r hc ht => ⟨0, At.zero hc, by
  by_cases h0 : termsN r 6 = []
  · exact absurd (by rw [← ht]; unfold txR; rw [if_pos h0]) h
  · refine .inl ⟨?_, ?_⟩
    · exact List.length_pos_iff.2 h0
    · rw [List.drop_zero, List.drop_zero, ← ht, (txR_some h0).1]⟩⟩
theorem join_head {x : List UInt8} {l : List (List UInt8)} : ∃ rest, Aft rest ∧ Lib.join (x :: l) [32] = x ++ rest ∧ (l = [] → rest = []) ∧ (l ≠ [] → rest = 32 :: Lib.join l [32]) := by
  cases l with
  | nil => exact ⟨[], .inl rfl, by rw [Lib.join_one, List.append_nil], fun _ => rfl, fun h => absurd rfl h⟩
  | cons y t => exact ⟨32 :: Lib.join (y :: t) [32], .inr ⟨_, rfl⟩, by simp [Lib.join], fun h => (by cases h), fun _ => rfl⟩
theorem PInv.word {s : ByteArray} {a : Nat} {q : RV} (h : PInv s a q) (hc : a = 0 ∨ a < s.size) {r : RV} (h1 : checkS r = 0) (h2 : txR r = s.data.toList) :
    ∃ (i : Nat) (e f : Int) (w : List UInt8), i < 6 ∧ termL (s.data.toList.drop a) = some ((i : Int), decide (e < 0), (e.natAbs : Int), f, w.length) ∧ e ≠ 0 ∧ (-100000 ≤ e ∧ e ≤ 100000) ∧ (1 ≤ f ∧ f ≤ 1000) ∧ checkS (unR i e f) = 0 ∧
      ∃ q' j, joinS q (unR i e f) 1 = (q', 0) ∧ At r (j + 1) q' ∧ j < (termsN r 6).length ∧ ∃ rest, s.data.toList.drop a = w ++ rest ∧ (j + 1 = (termsN r 6).length → rest = []) ∧ (j + 1 < (termsN r 6).length → rest = 32 :: Lib.join ((wdsR r).drop (j + 1)) [32]) := by
  obtain ⟨j, hat, hj | hj⟩ := h.2 r h1 h2
  · obtain ⟨i, i1, i2, i3, ⟨_, i4, i5⟩, q', q1, q2⟩ := hat.step h1 hj.1; have hl : j < (wdsR r).length := (by rw [wds_len]; exact hj.1)
    have e1 : (wdsR r).drop j = wrR (prime i) (r.num i) r.d :: (wdsR r).drop (j + 1) := by
      rw [List.drop_eq_getElem_cons hl]; rw [List.getElem?_eq_getElem hl] at i2; injection i2 with i2
      rw [i2]
    obtain ⟨rest, r1, r2, r3, r4⟩ := join_head (x := wrR (prime i) (r.num i) r.d) (l := (wdsR r).drop (j + 1)); have e2 : s.data.toList.drop a = wrR (prime i) (r.num i) r.d ++ rest := (by rw [hj.2, e1, r2]); have hb := gR_bd i5.1 (k := r.num i); have hk := gR_k (r.num i) r.d; refine ⟨i, (r.num i).tdiv (gR (r.num i) r.d : Nat), r.d.tdiv (gR (r.num i) r.d : Nat), _, i1, by rw [e2]; exact termL_word i1 i4 i5 r1, fun h0 => ?_, ?_, ?_, un_check i1 i4 i5, q', j, q1, q2, hj.1, rest, e2, fun hx => r3 ?_, fun hx => r4 ?_⟩
    · rw [h0, Int.zero_mul] at hk; exact i3 hk.symm
    · have := i4.1; have := i4.2; omega
    · omega
    · exact List.drop_eq_nil_of_le (by rw [wds_len]; omega)
    · intro h0; have := congrArg List.length h0; rw [List.length_drop, wds_len, List.length_nil] at this; omega
  · exfalso; rcases hc with hc | hc <;> omega
theorem PInv.next {s : ByteArray} {a c : Nat} {q q' : RV} {i : Nat} {ng : Bool} {n d e : Int} (h : PInv s a q) (hc : a = 0 ∨ a < s.size) (ht : termL (s.data.toList.drop a) = some ((i : Int), ng, n, d, c)) (he : (if ng = true then -n else n) = e)
    (hn : 0 < n) (hu : checkS (unR i e d) = 0) (hj : joinS q (unR i e d) 1 = (q', 0)) : PInv s (if a + c < s.size then a + c + 1 else a + c) q' := by
  refine ⟨join_good h.1 hu hj, fun r h1 h2 => ?_⟩; obtain ⟨i', e', f, w, i1, i2, i3, i4, i5, i6, q2, j, j1, j2, j3, rest, r1, r2, r3⟩ := h.word hc h1 h2; have hl := congrArg List.length r1; rw [List.length_drop, Array.length_toList, List.length_append] at hl; have hsz : s.data.size = s.size := rfl; rw [hsz] at hl; have hcb := termL_bd ht; rw [ht] at i2; injection i2 with i2; injection i2 with e1 i2; injection i2 with e2 i2; injection i2 with e3 i2; injection i2 with e4 e5
  have hii : i = i' := (by omega); subst hii e4 e5
  have hee : e = e' := by
    rw [← he, e2]
    by_cases h0 : e' < 0
    · rw [decide_eq_true h0, if_pos rfl, e3]; omega
    · rw [decide_eq_false h0, if_neg (by decide), e3]; omega
  subst hee; rw [hj] at j1; injection j1 with j1 _
  subst j1; refine ⟨j + 1, j2, ?_⟩; have hw1 : 1 ≤ w.length := hcb.2.2.2.1; rcases Nat.lt_or_ge (j + 1) (termsN r 6).length with h5 | h5
  · have hr := r3 h5; rw [hr, List.length_cons] at hl; rw [if_pos (by omega)]; refine .inl ⟨h5, ?_⟩; have e6 : s.data.toList.drop (a + w.length + 1) = ((s.data.toList.drop a).drop w.length).drop 1 := (by rw [List.drop_drop, List.drop_drop]; rfl); rw [e6, r1, List.drop_left, hr]; rfl
  · have hr := r2 (by omega); rw [hr, List.length_nil] at hl; rcases hc with hc | hc
    · rw [if_neg (by omega)]; exact .inr ⟨by omega, by omega, by omega⟩
    · rw [if_neg (by omega)]; exact .inr ⟨by omega, by omega, by omega⟩
theorem PInv.last {s : ByteArray} {a : Nat} {q : RV} (h : PInv s a q) (ha : 0 < a) (hs : s.size ≤ a) {r : RV} (h1 : checkS r = 0) (h2 : txR r = s.data.toList) : q = r := by
  obtain ⟨j, hat, hj | hj⟩ := h.2 r h1 h2
  · exfalso; have hl : j < (wdsR r).length := (by rw [wds_len]; exact hj.1); have e2 := hj.2; rw [drop_end hs, List.drop_eq_getElem_cons hl] at e2; obtain ⟨rest, _, r2, _⟩ := join_head (x := (wdsR r)[j]) (l := (wdsR r).drop (j + 1)); rw [r2] at e2; obtain ⟨x, hx, hxw⟩ := List.mem_map.1 (List.getElem_mem hl : (wdsR r)[j] ∈ wdsR r); rw [← hxw] at e2; have := congrArg List.length e2; unfold wrR at this; simp at this
  · exact At.last h1 (by rw [← hj.1]; exact hat)
theorem termV_out (s : ByteArray) (a : Nat) (ha : a ≤ s.size) : ∃ (K e d nx : Int) (ok : Bool), termV a (termL (s.data.toList.drop a)) = .tuple #[.int .i64 K, .int .i64 e, .int .i64 d, .int .i64 nx, .bool ok] ∧
    (ok = true → ∃ (i c : Nat) (ng : Bool) (n : Int), termL (s.data.toList.drop a) = some ((i : Int), ng, n, d, c) ∧ (if ng = true then -n else n) = e ∧ 0 < n ∧ n < 1000000 ∧ 0 < d ∧ d < 1000000 ∧ i < 6 ∧ K = (i : Int) ∧ nx = ((a + c : Nat) : Int) ∧ 1 ≤ c ∧ a + c ≤ s.size) ∧
    (∀ (i e f : Int) (c : Nat), termL (s.data.toList.drop a) = some (i, decide (e < 0), (e.natAbs : Int), f, c) → e ≠ 0 → 1 ≤ f → ok = true) ∧ (-1000000 < e ∧ e < 1000000) ∧ (∀ (i e' f : Int) (c : Nat), termL (s.data.toList.drop a) = some (i, decide (e' < 0), (e'.natAbs : Int), f, c) → e' = e ∧ f = d ∧ i = K) := by
  rcases h : termL (s.data.toList.drop a) with _ | ⟨K, ng, n, d, c⟩
  · refine ⟨0, 0, 0, 0, false, rfl, fun h => (by cases h), fun i e f c h => (by cases h), ⟨by decide, by decide⟩, fun i e f c h => (by cases h)⟩
  · obtain ⟨⟨k1, k2⟩, ⟨n1, n2⟩, ⟨d1, d2⟩, c1, c2⟩ := termL_bd h; rw [List.length_drop, Array.length_toList] at c2; have hsz : s.data.size = s.size := rfl; rw [hsz] at c2; refine ⟨K, _, d, _, _, rfl, fun hok => ?_, fun i e f c' h2 he hf => ?_, ?_, fun i e f c' h2 => ?_⟩
    · rw [Bool.and_eq_true, decide_eq_true_eq, decide_eq_true_eq] at hok; exact ⟨K.toNat, c, ng, n, by rw [show ((K.toNat : Nat) : Int) = K by omega], rfl, hok.1, n2, hok.2, d2, by omega, by omega, rfl, c1, by omega⟩
    · injection h2 with h2; injection h2 with _ h2; injection h2 with _ h2; injection h2 with e3 h2; injection h2 with e4 _
      rw [Bool.and_eq_true, decide_eq_true_eq, decide_eq_true_eq]; exact ⟨by omega, by omega⟩
    · split <;> constructor <;> omega
    · injection h2 with h2; injection h2 with e1 h2; injection h2 with e2 h2; injection h2 with e3 h2; injection h2 with e4 _
      refine ⟨?_, e4.symm, e1.symm⟩; rw [e2, e3]
      by_cases h0 : e < 0
      · rw [decide_eq_true h0, if_pos rfl]; omega
      · rw [decide_eq_false h0, if_neg (by decide)]; omega
attribute [-simp] Tryz.isAgg24
set_option maxHeartbeats 6400000 in
set_option maxRecDepth 100000 in
theorem r4Parse_any (s : ByteArray) (w : World) : Calls Tryz.prog 8 #[.string s] w fun e w' => e = .returned (.tuple #[.agg (parR s).1.cells, .int .i64 (parR s).2]) ∧ Below w.heap.size w w' := by
  have HB : Sl (Below w.heap.size w w) := ⟨Below.refl _ _⟩; obtain ⟨r, hr⟩ : ∃ r, parR s = r := ⟨_, rfl⟩; rw [hr]; have HR : Sl _ := ⟨hr⟩; clear hr
  by_cases hl : 200 < s.size
  · have hd : decide ((200 : Int) < (s.size : Int)) = true := decide_eq_true (by omega); have HV : Sl (r = (RVzero, 3)) := ⟨by rw [← HR.out]; exact parR_long hl⟩; go_enter Tryz.func8, Tryz.ntmps8
    go_wp2_with ((with_reducible show wpList _ _ _ _ _ _); first
      | (refine wpList_alloc_new 2 rfl rfl 24 rfl RVzero.cells alloc_xratio ?_; rintro w1 gR zg zm zs zb; have ORD : Sl (w.heap.size ≤ gR) := ⟨by have := HB.out.size; omega⟩; replace HB : Sl (Below w.heap.size w w1) := ⟨below_mv HB.out zm (by have := HB.out.size; have := ORD.out; omega) HB.out.size⟩; have XR : Sl (Blk w1 gR 24 RVzero.cells) := ⟨zb⟩; clear zg zm zs zb)
      | (refine wpList_store_whole rfl 24 (.tmp 2) (.tmp 19) rfl gR RVzero.cells rfl rfl 24 RVzero.cells XR.out rfl size_xratio (RV.xcells_one _) ?_; rintro w2 zm zs zb; replace HB : Sl (Below w.heap.size w w2) := ⟨below_mv HB.out zm (by have := HB.out.size; have := ORD.out; omega) HB.out.size⟩; replace XR : Sl (Blk w2 gR 24 RVzero.cells) := ⟨zb⟩; clear zm zs zb))
    (try simp only [Exit.inBlock, Exit.then]); refine bodyPost_ret (results_rowR rfl _ _ gR _ _ _ rfl XR.out Tryz.underlying24 rfl size_xratio) rfl ?_
    exact ⟨by rw [HV.out]; rfl, HB.out⟩
  · have hd : decide ((200 : Int) < (s.size : Int)) = false := decide_eq_false (by omega); have HL : Sl (s.size ≤ 200) := ⟨by omega⟩; clear hl
    by_cases h1 : s.data.toList = [49]
    · have hq : (s.toList == [49]) = true := (by rw [beq_iff_eq, Go.ByteArray.toList_eq]; exact h1); have HV : Sl (r = (oneR, 0)) := ⟨by rw [← HR.out]; exact parR_hit HL.out one_check (one_text.trans h1.symm)⟩; clear h1; go_enter Tryz.func8, Tryz.ntmps8
      go_wp2_with ((with_reducible show wpList _ _ _ _ _ _); first
        | (refine wpList_alloc_new 2 rfl rfl 24 rfl RVzero.cells alloc_xratio ?_; rintro w13 gR zg zm zs zb; have ORD : Sl (w.heap.size ≤ gR) := ⟨by have := HB.out.size; omega⟩; replace HB : Sl (Below w.heap.size w w13) := ⟨below_mv HB.out zm (by have := HB.out.size; have := ORD.out; omega) HB.out.size⟩; have XR : Sl (Blk w13 gR 24 RVzero.cells) := ⟨zb⟩; clear zg zm zs zb)
        | (refine wpList_alloc_new 4 rfl rfl 24 rfl RVzero.cells alloc_xratio ?_; rintro w14 gQ zg zm zs zb; replace ORD : Sl (w.heap.size ≤ gR ∧ gR < gQ) := ⟨by have := HB.out.size; have := ORD.out; have := XR.out.lt; omega⟩; replace HB : Sl (Below w.heap.size w w14) := ⟨below_mv HB.out zm (by have := HB.out.size; have := ORD.out; omega) HB.out.size⟩; replace XR : Sl (Blk w14 gR 24 RVzero.cells) := ⟨XR.out.mv zm (by have := XR.out.lt; have := ORD.out; omega)⟩; have XQ : Sl (Blk w14 gQ 24 RVzero.cells) := ⟨zb⟩; clear zg zm zs zb)
        | (refine wpList_store_whole rfl 24 (.tmp 4) (.tmp 20) rfl gQ oneR.cells rfl rfl 24 RVzero.cells XQ.out rfl size_xratio (RV.xcells_one _) ?_; rintro w15 zm zs zb; replace HB : Sl (Below w.heap.size w w15) := ⟨below_mv HB.out zm (by have := HB.out.size; have := ORD.out; omega) HB.out.size⟩; replace XR : Sl (Blk w15 gR 24 RVzero.cells) := ⟨XR.out.mv zm (by have := XR.out.lt; have := ORD.out; omega)⟩; replace XQ : Sl (Blk w15 gQ 24 oneR.cells) := ⟨zb⟩; clear zm zs zb)
        | (refine wpList_load_whole rfl 24 (.tmp 4) rfl gQ rfl 24 oneR.cells _ XQ.out Tryz.underlying24 rfl size_xratio ?_)
        | (refine wpList_store_whole rfl 24 (.tmp 2) (.tmp 23) rfl gR oneR.cells rfl rfl 24 RVzero.cells XR.out rfl size_xratio (RV.xcells_one _) ?_; rintro w16 zm zs zb; replace HB : Sl (Below w.heap.size w w16) := ⟨below_mv HB.out zm (by have := HB.out.size; have := ORD.out; omega) HB.out.size⟩; replace XQ : Sl (Blk w16 gQ 24 oneR.cells) := ⟨XQ.out.mv zm (by have := XQ.out.lt; have := ORD.out; omega)⟩; replace XR : Sl (Blk w16 gR 24 oneR.cells) := ⟨zb⟩; clear zm zs zb))
      (try simp only [Exit.inBlock, Exit.then]); refine bodyPost_ret (results_rowR rfl _ _ gR _ _ _ rfl XR.out Tryz.underlying24 rfl size_xratio) rfl ?_
      exact ⟨by rw [HV.out]; rfl, HB.out⟩
    · have hq : (s.toList == [49]) = false := (by rw [beq_eq_false_iff_ne, Go.ByteArray.toList_eq]; exact h1); have HP : Sl _ := ⟨PInv.start h1⟩; clear h1; go_enter Tryz.func8, Tryz.ntmps8
      go_wp2_with ((with_reducible show wpList _ _ _ _ _ _); first
        | (refine wpList_alloc_new 2 rfl rfl 24 rfl RVzero.cells alloc_xratio ?_; rintro w27 gR zg zm zs zb; have ORD : Sl (w.heap.size ≤ gR) := ⟨by have := HB.out.size; omega⟩; replace HB : Sl (Below w.heap.size w w27) := ⟨below_mv HB.out zm (by have := HB.out.size; have := ORD.out; omega) HB.out.size⟩; have XR : Sl (Blk w27 gR 24 RVzero.cells) := ⟨zb⟩; clear zg zm zs zb)
        | (refine wpList_alloc_new 4 rfl rfl 24 rfl RVzero.cells alloc_xratio ?_; rintro w28 gQ zg zm zs zb; replace ORD : Sl (w.heap.size ≤ gR ∧ gR < gQ) := ⟨by have := HB.out.size; have := ORD.out; have := XR.out.lt; omega⟩; replace HB : Sl (Below w.heap.size w w28) := ⟨below_mv HB.out zm (by have := HB.out.size; have := ORD.out; omega) HB.out.size⟩; replace XR : Sl (Blk w28 gR 24 RVzero.cells) := ⟨XR.out.mv zm (by have := XR.out.lt; have := ORD.out; omega)⟩; have XQ : Sl (Blk w28 gQ 24 RVzero.cells) := ⟨zb⟩; clear zg zm zs zb)
        | (refine wpList_store_whole rfl 24 (.tmp 4) (.tmp 20) rfl gQ oneR.cells rfl rfl 24 RVzero.cells XQ.out rfl size_xratio (RV.xcells_one _) ?_; rintro w29 zm zs zb; replace HB : Sl (Below w.heap.size w w29) := ⟨below_mv HB.out zm (by have := HB.out.size; have := ORD.out; omega) HB.out.size⟩; replace XR : Sl (Blk w29 gR 24 RVzero.cells) := ⟨XR.out.mv zm (by have := XR.out.lt; have := ORD.out; omega)⟩; replace XQ : Sl (Blk w29 gQ 24 oneR.cells) := ⟨zb⟩; clear zm zs zb))
      go_loopw [5] (fun s5 wr => ∃ (a : Nat) (q : RV), a ≤ s.size ∧ s5 = .int .i64 a ∧ Sl (PInv s a q) ∧ Sl (Below w.heap.size w wr) ∧ Sl (Blk wr gR 24 RVzero.cells) ∧ Sl (Blk wr gQ 24 q.cells)) (fun s5 _ => s.size - (RowKit.intOf s5).toNat)
      case atStart => exact ⟨0, oneR, Nat.zero_le _, rfl, HP, HB, XR, XQ⟩
      case round =>
        clear HB XR XQ HP; obtain ⟨a, q, ha, rfl, HP, HB, XR, XQ⟩ := hrel
        by_cases ha0 : a = 0
        · have hq0 : ((a : Int) == 0) = true := (by rw [beq_iff_eq]; omega); have HC : Sl (a = 0 ∨ a < s.size) := ⟨.inl ha0⟩; clear ha0
          as_aux_lemma =>
            have hl2 := HL.out; obtain ⟨K, x, d, nx, ok, hv, hok, hgo, hbe, hsm⟩ := termV_out s a ha; have HTM : Sl _ := ⟨fun W : World => term_any s a ha HL.out W⟩; rw [hv] at HTM; have HSM : Sl _ := ⟨hsm⟩; have HGO : Sl _ := ⟨hgo⟩; clear hv hsm hgo
            cases ok with
            | false =>
              clear hok
              have HQ : Sl (r = (RVzero, 6)) := ⟨by
                rw [← HR.out]; refine parR_miss HL.out (fun ⟨r0, h1, h2⟩ => ?_); obtain ⟨i, e0, f, wd, i1, i2, i3, i4, i5, i6, q2, j, j1, j2, j3, rest, r1, r2, r3⟩ := HP.out.word HC.out h1 h2
                exact absurd (HGO.out _ _ _ _ i2 i3 i5.1) (by decide)⟩
              go_wp2_with fail; refine (HTM.out _).mono ?_; rintro e w30 ⟨rfl, hb⟩; replace HB : Sl (Below w.heap.size w w30) := ⟨HB.out.trans (hb.mono HB.out.size)⟩; replace XR : Sl (Blk w30 gR 24 RVzero.cells) := ⟨XR.out.below hb XR.out.lt⟩; replace XQ : Sl (Blk w30 gQ 24 q.cells) := ⟨XQ.out.below hb XQ.out.lt⟩; clear hb
              go_wp2_with ((with_reducible show wpList _ _ _ _ _ _); first
                | (refine wpList_store_whole rfl 24 (.tmp 2) (.tmp 55) rfl gR RVzero.cells rfl rfl 24 RVzero.cells XR.out rfl size_xratio (RV.xcells_one _) ?_; rintro w31 zm zs zb; replace HB : Sl (Below w.heap.size w w31) := ⟨below_mv HB.out zm (by have := HB.out.size; have := ORD.out; omega) HB.out.size⟩; replace XQ : Sl (Blk w31 gQ 24 q.cells) := ⟨XQ.out.mv zm (by have := XQ.out.lt; have := ORD.out; omega)⟩; replace XR : Sl (Blk w31 gR 24 RVzero.cells) := ⟨zb⟩; clear zm zs zb))
              (try simp only [Exit.inBlock, Exit.then]); refine bodyPost_ret (results_rowR rfl _ _ gR _ _ _ rfl XR.out Tryz.underlying24 rfl size_xratio) rfl ?_
              exact ⟨by rw [HQ.out]; rfl, HB.out⟩
            | true =>
              obtain ⟨i, c, ng, n, ht, he, n1, n2, d1, d2, hi, rfl, rfl, c1, c2⟩ := hok rfl; have HT : Sl _ := ⟨ht⟩; have HE : Sl _ := ⟨he⟩; have HN1 : Sl _ := ⟨n1⟩; clear hok ht he n1
              by_cases hbad : (x < -100000 ∨ 100000 < x) ∨ 1000 < d
              · skip
                have HQ : Sl (r = (RVzero, 6)) := ⟨by
                  rw [← HR.out]; refine parR_miss HL.out (fun ⟨r0, h1, h2⟩ => ?_); obtain ⟨i, e0, f, wd, i1, i2, i3, i4, i5, i6, q2, j, j1, j2, j3, rest, r1, r2, r3⟩ := HP.out.word HC.out h1 h2; have h3 := HSM.out _ _ _ _ i2; have h4 := i4.1; have h5 := i4.2; have h6 := i5.2
                  omega⟩
                by_cases hx : x < -100000
                · have hx1 : decide (x < -100000) = true := decide_eq_true hx; go_wp2_with fail; refine (HTM.out _).mono ?_; rintro e w52 ⟨rfl, hb⟩; replace HB : Sl (Below w.heap.size w w52) := ⟨HB.out.trans (hb.mono HB.out.size)⟩; replace XR : Sl (Blk w52 gR 24 RVzero.cells) := ⟨XR.out.below hb XR.out.lt⟩; replace XQ : Sl (Blk w52 gQ 24 q.cells) := ⟨XQ.out.below hb XQ.out.lt⟩; clear hb
                  go_wp2_with ((with_reducible show wpList _ _ _ _ _ _); first
                    | (refine wpList_store_whole rfl 24 (.tmp 2) (.tmp 55) rfl gR RVzero.cells rfl rfl 24 RVzero.cells XR.out rfl size_xratio (RV.xcells_one _) ?_; rintro w53 zm zs zb; replace HB : Sl (Below w.heap.size w w53) := ⟨below_mv HB.out zm (by have := HB.out.size; have := ORD.out; omega) HB.out.size⟩; replace XQ : Sl (Blk w53 gQ 24 q.cells) := ⟨XQ.out.mv zm (by have := XQ.out.lt; have := ORD.out; omega)⟩; replace XR : Sl (Blk w53 gR 24 RVzero.cells) := ⟨zb⟩; clear zm zs zb))
                  (try simp only [Exit.inBlock, Exit.then]); refine bodyPost_ret (results_rowR rfl _ _ gR _ _ _ rfl XR.out Tryz.underlying24 rfl size_xratio) rfl ?_
                  exact ⟨by rw [HQ.out]; rfl, HB.out⟩
                · have hx1 : decide (x < -100000) = false := decide_eq_false hx
                  by_cases hy : 100000 < x
                  · have hy1 : decide (100000 < x) = true := decide_eq_true hy; go_wp2_with fail; refine (HTM.out _).mono ?_; rintro e w74 ⟨rfl, hb⟩; replace HB : Sl (Below w.heap.size w w74) := ⟨HB.out.trans (hb.mono HB.out.size)⟩; replace XR : Sl (Blk w74 gR 24 RVzero.cells) := ⟨XR.out.below hb XR.out.lt⟩; replace XQ : Sl (Blk w74 gQ 24 q.cells) := ⟨XQ.out.below hb XQ.out.lt⟩; clear hb
                    go_wp2_with ((with_reducible show wpList _ _ _ _ _ _); first
                      | (refine wpList_store_whole rfl 24 (.tmp 2) (.tmp 55) rfl gR RVzero.cells rfl rfl 24 RVzero.cells XR.out rfl size_xratio (RV.xcells_one _) ?_; rintro w75 zm zs zb; replace HB : Sl (Below w.heap.size w w75) := ⟨below_mv HB.out zm (by have := HB.out.size; have := ORD.out; omega) HB.out.size⟩; replace XQ : Sl (Blk w75 gQ 24 q.cells) := ⟨XQ.out.mv zm (by have := XQ.out.lt; have := ORD.out; omega)⟩; replace XR : Sl (Blk w75 gR 24 RVzero.cells) := ⟨zb⟩; clear zm zs zb))
                    (try simp only [Exit.inBlock, Exit.then]); refine bodyPost_ret (results_rowR rfl _ _ gR _ _ _ rfl XR.out Tryz.underlying24 rfl size_xratio) rfl ?_
                    exact ⟨by rw [HQ.out]; rfl, HB.out⟩
                  · have hy1 : decide (100000 < x) = false := decide_eq_false hy; have hz1 : decide (1000 < d) = true := decide_eq_true (by omega); go_wp2_with fail; refine (HTM.out _).mono ?_; rintro e w96 ⟨rfl, hb⟩; replace HB : Sl (Below w.heap.size w w96) := ⟨HB.out.trans (hb.mono HB.out.size)⟩; replace XR : Sl (Blk w96 gR 24 RVzero.cells) := ⟨XR.out.below hb XR.out.lt⟩; replace XQ : Sl (Blk w96 gQ 24 q.cells) := ⟨XQ.out.below hb XQ.out.lt⟩; clear hb
                    go_wp2_with ((with_reducible show wpList _ _ _ _ _ _); first
                      | (refine wpList_store_whole rfl 24 (.tmp 2) (.tmp 55) rfl gR RVzero.cells rfl rfl 24 RVzero.cells XR.out rfl size_xratio (RV.xcells_one _) ?_; rintro w97 zm zs zb; replace HB : Sl (Below w.heap.size w w97) := ⟨below_mv HB.out zm (by have := HB.out.size; have := ORD.out; omega) HB.out.size⟩; replace XQ : Sl (Blk w97 gQ 24 q.cells) := ⟨XQ.out.mv zm (by have := XQ.out.lt; have := ORD.out; omega)⟩; replace XR : Sl (Blk w97 gR 24 RVzero.cells) := ⟨zb⟩; clear zm zs zb))
                    (try simp only [Exit.inBlock, Exit.then]); refine bodyPost_ret (results_rowR rfl _ _ gR _ _ _ rfl XR.out Tryz.underlying24 rfl size_xratio) rfl ?_
                    exact ⟨by rw [HQ.out]; rfl, HB.out⟩
              · have hx1 : decide (x < -100000) = false := decide_eq_false (by omega); have hy1 : decide (100000 < x) = false := decide_eq_false (by omega); have hz1 : decide (1000 < d) = false := decide_eq_false (by omega); have hi0 : (0 : Int) ≤ (i : Int) := (by omega); have hi1 : (i : Int) < 6 := (by omega); go_wp2_with fail; refine (HTM.out _).mono ?_; rintro e w138 ⟨rfl, hb⟩; replace HB : Sl (Below w.heap.size w w138) := ⟨HB.out.trans (hb.mono HB.out.size)⟩; replace XR : Sl (Blk w138 gR 24 RVzero.cells) := ⟨XR.out.below hb XR.out.lt⟩; replace XQ : Sl (Blk w138 gQ 24 q.cells) := ⟨XQ.out.below hb XQ.out.lt⟩; clear hb; clear HTM; obtain ⟨u, hu⟩ : ∃ u, checkS (unR i x d) = u := ⟨_, rfl⟩; have HU : Sl _ := ⟨hu⟩; have HCK : Sl _ := ⟨fun W : World => r4Check_any (unR i x d) W⟩; rw [hu] at HCK; clear hu
                go_wp2_with ((with_reducible show wpList _ _ _ _ _ _); first
                  | (refine wpList_alloc_new 11 rfl rfl 24 rfl RVzero.cells alloc_xratio ?_; rintro w139 gX zg zm zs zb; replace ORD : Sl (w.heap.size ≤ gR ∧ gR < gQ ∧ gQ < gX) := ⟨by have := HB.out.size; have := ORD.out; have := XR.out.lt; have := XQ.out.lt; omega⟩; replace HB : Sl (Below w.heap.size w w139) := ⟨below_mv HB.out zm (by have := HB.out.size; have := ORD.out; omega) HB.out.size⟩; replace XR : Sl (Blk w139 gR 24 RVzero.cells) := ⟨XR.out.mv zm (by have := XR.out.lt; have := ORD.out; omega)⟩; replace XQ : Sl (Blk w139 gQ 24 q.cells) := ⟨XQ.out.mv zm (by have := XQ.out.lt; have := ORD.out; omega)⟩; have XX : Sl (Blk w139 gX 24 RVzero.cells) := ⟨zb⟩; clear zg zm zs zb)
                  | (refine wpList_store_whole rfl 24 (.tmp 11) (.tmp 57) rfl gX (RV.of (fun _ => 0) d).cells rfl rfl 24 RVzero.cells XX.out rfl size_xratio (RV.xcells_one _) ?_; rintro w140 zm zs zb; replace HB : Sl (Below w.heap.size w w140) := ⟨below_mv HB.out zm (by have := HB.out.size; have := ORD.out; omega) HB.out.size⟩; replace XR : Sl (Blk w140 gR 24 RVzero.cells) := ⟨XR.out.mv zm (by have := XR.out.lt; have := ORD.out; omega)⟩; replace XQ : Sl (Blk w140 gQ 24 q.cells) := ⟨XQ.out.mv zm (by have := XQ.out.lt; have := ORD.out; omega)⟩; replace XX : Sl (Blk w140 gX 24 (RV.of (fun _ => 0) d).cells) := ⟨zb⟩; clear zm zs zb)
                  | (refine wpList_store_int rfl 3 (.tmp 61) (.tmp 59) rfl gX i .i64 x rfl rfl 24 (RV.of (fun _ => 0) d).cells (unR i x d).cells XX.out (by show i < 7; omega) (RV.of_set _ _ _ hi) size_xint ?_; rintro w141 zm zs zb; replace HB : Sl (Below w.heap.size w w141) := ⟨below_mv HB.out zm (by have := HB.out.size; have := ORD.out; omega) HB.out.size⟩; replace XR : Sl (Blk w141 gR 24 RVzero.cells) := ⟨XR.out.mv zm (by have := XR.out.lt; have := ORD.out; omega)⟩; replace XQ : Sl (Blk w141 gQ 24 q.cells) := ⟨XQ.out.mv zm (by have := XQ.out.lt; have := ORD.out; omega)⟩; replace XX : Sl (Blk w141 gX 24 (unR i x d).cells) := ⟨zb⟩; clear zm zs zb)
                  | (refine wpList_load_whole rfl 24 (.tmp 11) rfl gX rfl 24 (unR i x d).cells _ XX.out Tryz.underlying24 rfl size_xratio ?_))
                refine (HCK.out _).mono ?_; rintro e w142 ⟨rfl, hb⟩; replace HB : Sl (Below w.heap.size w w142) := ⟨HB.out.trans (hb.mono HB.out.size)⟩; replace XR : Sl (Blk w142 gR 24 RVzero.cells) := ⟨XR.out.below hb XR.out.lt⟩; replace XQ : Sl (Blk w142 gQ 24 q.cells) := ⟨XQ.out.below hb XQ.out.lt⟩; replace XX : Sl (Blk w142 gX 24 (unR i x d).cells) := ⟨XX.out.below hb XX.out.lt⟩; clear hb; clear HCK
                by_cases hu0 : u = 0
                · subst hu0; obtain ⟨⟨q', u2⟩, hj⟩ : ∃ y, joinS q (unR i x d) 1 = y := ⟨_, rfl⟩; have HJ : Sl _ := ⟨hj⟩; have HMU : Sl _ := ⟨fun W : World => r4Mul_any q (unR i x d) W⟩; rw [hj] at HMU; clear hj
                  go_wp2_with ((with_reducible show wpList _ _ _ _ _ _); first
                    | (refine wpList_load_whole rfl 24 (.tmp 4) rfl gQ rfl 24 q.cells _ XQ.out Tryz.underlying24 rfl size_xratio ?_)
                    | (refine wpList_load_whole rfl 24 (.tmp 11) rfl gX rfl 24 (unR i x d).cells _ XX.out Tryz.underlying24 rfl size_xratio ?_))
                  refine (HMU.out _).mono ?_; rintro e w143 ⟨hof, hb⟩; replace HB : Sl (Below w.heap.size w w143) := ⟨HB.out.trans (hb.mono HB.out.size)⟩; replace XR : Sl (Blk w143 gR 24 RVzero.cells) := ⟨XR.out.below hb XR.out.lt⟩; replace XQ : Sl (Blk w143 gQ 24 q.cells) := ⟨XQ.out.below hb XQ.out.lt⟩; replace XX : Sl (Blk w143 gX 24 (unR i x d).cells) := ⟨XX.out.below hb XX.out.lt⟩; clear hb; unfold OfRes at hof; subst hof; clear HMU
                  by_cases hu2 : u2 = 0
                  · subst hu2; have HPN : Sl _ := ⟨HP.out.next HC.out HT.out HE.out HN1.out HU.out HJ.out⟩
                    by_cases hlast : a + c < s.size
                    · have hlI : decide (((a + c : Nat) : Int) < (s.size : Int)) = true := decide_eq_true (by omega); rw [if_pos hlast] at HPN
                      go_wp2_with ((with_reducible show wpList _ _ _ _ _ _); first
                        | (refine wpList_alloc_new 12 rfl rfl 24 rfl RVzero.cells alloc_xratio ?_; rintro w144 gY zg zm zs zb; replace ORD : Sl (w.heap.size ≤ gR ∧ gR < gQ ∧ gQ < gX ∧ gX < gY) := ⟨by have := HB.out.size; have := ORD.out; have := XR.out.lt; have := XQ.out.lt; have := XX.out.lt; omega⟩; replace HB : Sl (Below w.heap.size w w144) := ⟨below_mv HB.out zm (by have := HB.out.size; have := ORD.out; omega) HB.out.size⟩; replace XR : Sl (Blk w144 gR 24 RVzero.cells) := ⟨XR.out.mv zm (by have := XR.out.lt; have := ORD.out; omega)⟩; replace XQ : Sl (Blk w144 gQ 24 q.cells) := ⟨XQ.out.mv zm (by have := XQ.out.lt; have := ORD.out; omega)⟩; replace XX : Sl (Blk w144 gX 24 (unR i x d).cells) := ⟨XX.out.mv zm (by have := XX.out.lt; have := ORD.out; omega)⟩; have XY : Sl (Blk w144 gY 24 RVzero.cells) := ⟨zb⟩; clear zg zm zs zb)
                        | (refine wpList_store_whole rfl 24 (.tmp 12) (.tmp 70) rfl gY q'.cells rfl rfl 24 RVzero.cells XY.out rfl size_xratio (RV.xcells_one _) ?_; rintro w145 zm zs zb; replace HB : Sl (Below w.heap.size w w145) := ⟨below_mv HB.out zm (by have := HB.out.size; have := ORD.out; omega) HB.out.size⟩; replace XR : Sl (Blk w145 gR 24 RVzero.cells) := ⟨XR.out.mv zm (by have := XR.out.lt; have := ORD.out; omega)⟩; replace XQ : Sl (Blk w145 gQ 24 q.cells) := ⟨XQ.out.mv zm (by have := XQ.out.lt; have := ORD.out; omega)⟩; replace XX : Sl (Blk w145 gX 24 (unR i x d).cells) := ⟨XX.out.mv zm (by have := XX.out.lt; have := ORD.out; omega)⟩; replace XY : Sl (Blk w145 gY 24 q'.cells) := ⟨zb⟩; clear zm zs zb)
                        | (refine wpList_load_whole rfl 24 (.tmp 12) rfl gY rfl 24 q'.cells _ XY.out Tryz.underlying24 rfl size_xratio ?_)
                        | (refine wpList_store_whole rfl 24 (.tmp 4) (.tmp 75) rfl gQ q'.cells rfl rfl 24 q.cells XQ.out rfl size_xratio (RV.xcells_one _) ?_; rintro w146 zm zs zb; replace HB : Sl (Below w.heap.size w w146) := ⟨below_mv HB.out zm (by have := HB.out.size; have := ORD.out; omega) HB.out.size⟩; replace XR : Sl (Blk w146 gR 24 RVzero.cells) := ⟨XR.out.mv zm (by have := XR.out.lt; have := ORD.out; omega)⟩; replace XX : Sl (Blk w146 gX 24 (unR i x d).cells) := ⟨XX.out.mv zm (by have := XX.out.lt; have := ORD.out; omega)⟩; replace XY : Sl (Blk w146 gY 24 q'.cells) := ⟨XY.out.mv zm (by have := XY.out.lt; have := ORD.out; omega)⟩; replace XQ : Sl (Blk w146 gQ 24 q'.cells) := ⟨zb⟩; clear zm zs zb))
                      exact ⟨⟨a + c + 1, q', by omega, by go_num, HPN, HB, XR, XQ⟩, by simp [RowKit.intOf]; omega⟩
                    · have hlI : decide (((a + c : Nat) : Int) < (s.size : Int)) = false := decide_eq_false (by omega); rw [if_neg hlast] at HPN
                      go_wp2_with ((with_reducible show wpList _ _ _ _ _ _); first
                        | (refine wpList_alloc_new 12 rfl rfl 24 rfl RVzero.cells alloc_xratio ?_; rintro w167 gY zg zm zs zb; replace ORD : Sl (w.heap.size ≤ gR ∧ gR < gQ ∧ gQ < gX ∧ gX < gY) := ⟨by have := HB.out.size; have := ORD.out; have := XR.out.lt; have := XQ.out.lt; have := XX.out.lt; omega⟩; replace HB : Sl (Below w.heap.size w w167) := ⟨below_mv HB.out zm (by have := HB.out.size; have := ORD.out; omega) HB.out.size⟩; replace XR : Sl (Blk w167 gR 24 RVzero.cells) := ⟨XR.out.mv zm (by have := XR.out.lt; have := ORD.out; omega)⟩; replace XQ : Sl (Blk w167 gQ 24 q.cells) := ⟨XQ.out.mv zm (by have := XQ.out.lt; have := ORD.out; omega)⟩; replace XX : Sl (Blk w167 gX 24 (unR i x d).cells) := ⟨XX.out.mv zm (by have := XX.out.lt; have := ORD.out; omega)⟩; have XY : Sl (Blk w167 gY 24 RVzero.cells) := ⟨zb⟩; clear zg zm zs zb)
                        | (refine wpList_store_whole rfl 24 (.tmp 12) (.tmp 70) rfl gY q'.cells rfl rfl 24 RVzero.cells XY.out rfl size_xratio (RV.xcells_one _) ?_; rintro w168 zm zs zb; replace HB : Sl (Below w.heap.size w w168) := ⟨below_mv HB.out zm (by have := HB.out.size; have := ORD.out; omega) HB.out.size⟩; replace XR : Sl (Blk w168 gR 24 RVzero.cells) := ⟨XR.out.mv zm (by have := XR.out.lt; have := ORD.out; omega)⟩; replace XQ : Sl (Blk w168 gQ 24 q.cells) := ⟨XQ.out.mv zm (by have := XQ.out.lt; have := ORD.out; omega)⟩; replace XX : Sl (Blk w168 gX 24 (unR i x d).cells) := ⟨XX.out.mv zm (by have := XX.out.lt; have := ORD.out; omega)⟩; replace XY : Sl (Blk w168 gY 24 q'.cells) := ⟨zb⟩; clear zm zs zb)
                        | (refine wpList_load_whole rfl 24 (.tmp 12) rfl gY rfl 24 q'.cells _ XY.out Tryz.underlying24 rfl size_xratio ?_)
                        | (refine wpList_store_whole rfl 24 (.tmp 4) (.tmp 75) rfl gQ q'.cells rfl rfl 24 q.cells XQ.out rfl size_xratio (RV.xcells_one _) ?_; rintro w169 zm zs zb; replace HB : Sl (Below w.heap.size w w169) := ⟨below_mv HB.out zm (by have := HB.out.size; have := ORD.out; omega) HB.out.size⟩; replace XR : Sl (Blk w169 gR 24 RVzero.cells) := ⟨XR.out.mv zm (by have := XR.out.lt; have := ORD.out; omega)⟩; replace XX : Sl (Blk w169 gX 24 (unR i x d).cells) := ⟨XX.out.mv zm (by have := XX.out.lt; have := ORD.out; omega)⟩; replace XY : Sl (Blk w169 gY 24 q'.cells) := ⟨XY.out.mv zm (by have := XY.out.lt; have := ORD.out; omega)⟩; replace XQ : Sl (Blk w169 gQ 24 q'.cells) := ⟨zb⟩; clear zm zs zb))
                      exact ⟨⟨a + c, q', by omega, by go_num, HPN, HB, XR, XQ⟩, by simp [RowKit.intOf]; omega⟩
                  · have hz2 : ((u2 : Int) != 0) = true := (by rw [bne_iff_ne]; exact hu2)
                    have HQ : Sl (r = (RVzero, 6)) := ⟨by
                      rw [← HR.out]; refine parR_miss HL.out (fun ⟨r0, h1, h2⟩ => ?_); obtain ⟨i9, e0, f, wd, i1, i2, i3, i4, i5, i6, q2, j, j1, j2, j3, rest, r1, r2, r3⟩ := HP.out.word HC.out h1 h2; obtain ⟨h3, h4, h5⟩ := HSM.out _ _ _ _ i2; obtain rfl : i9 = i := (by omega); rw [h3, h4, HJ.out] at j1; injection j1 with _ j1
                      exact hu2 j1⟩
                    go_wp2_with ((with_reducible show wpList _ _ _ _ _ _); first
                      | (refine wpList_alloc_new 12 rfl rfl 24 rfl RVzero.cells alloc_xratio ?_; rintro w230 gY zg zm zs zb; replace ORD : Sl (w.heap.size ≤ gR ∧ gR < gQ ∧ gQ < gX ∧ gX < gY) := ⟨by have := HB.out.size; have := ORD.out; have := XR.out.lt; have := XQ.out.lt; have := XX.out.lt; omega⟩; replace HB : Sl (Below w.heap.size w w230) := ⟨below_mv HB.out zm (by have := HB.out.size; have := ORD.out; omega) HB.out.size⟩; replace XR : Sl (Blk w230 gR 24 RVzero.cells) := ⟨XR.out.mv zm (by have := XR.out.lt; have := ORD.out; omega)⟩; replace XQ : Sl (Blk w230 gQ 24 q.cells) := ⟨XQ.out.mv zm (by have := XQ.out.lt; have := ORD.out; omega)⟩; replace XX : Sl (Blk w230 gX 24 (unR i x d).cells) := ⟨XX.out.mv zm (by have := XX.out.lt; have := ORD.out; omega)⟩; have XY : Sl (Blk w230 gY 24 RVzero.cells) := ⟨zb⟩; clear zg zm zs zb)
                      | (refine wpList_store_whole rfl 24 (.tmp 12) (.tmp 70) rfl gY q'.cells rfl rfl 24 RVzero.cells XY.out rfl size_xratio (RV.xcells_one _) ?_; rintro w231 zm zs zb; replace HB : Sl (Below w.heap.size w w231) := ⟨below_mv HB.out zm (by have := HB.out.size; have := ORD.out; omega) HB.out.size⟩; replace XR : Sl (Blk w231 gR 24 RVzero.cells) := ⟨XR.out.mv zm (by have := XR.out.lt; have := ORD.out; omega)⟩; replace XQ : Sl (Blk w231 gQ 24 q.cells) := ⟨XQ.out.mv zm (by have := XQ.out.lt; have := ORD.out; omega)⟩; replace XX : Sl (Blk w231 gX 24 (unR i x d).cells) := ⟨XX.out.mv zm (by have := XX.out.lt; have := ORD.out; omega)⟩; replace XY : Sl (Blk w231 gY 24 q'.cells) := ⟨zb⟩; clear zm zs zb)
                      | (refine wpList_store_whole rfl 24 (.tmp 2) (.tmp 74) rfl gR RVzero.cells rfl rfl 24 RVzero.cells XR.out rfl size_xratio (RV.xcells_one _) ?_; rintro w232 zm zs zb; replace HB : Sl (Below w.heap.size w w232) := ⟨below_mv HB.out zm (by have := HB.out.size; have := ORD.out; omega) HB.out.size⟩; replace XQ : Sl (Blk w232 gQ 24 q.cells) := ⟨XQ.out.mv zm (by have := XQ.out.lt; have := ORD.out; omega)⟩; replace XX : Sl (Blk w232 gX 24 (unR i x d).cells) := ⟨XX.out.mv zm (by have := XX.out.lt; have := ORD.out; omega)⟩; replace XY : Sl (Blk w232 gY 24 q'.cells) := ⟨XY.out.mv zm (by have := XY.out.lt; have := ORD.out; omega)⟩; replace XR : Sl (Blk w232 gR 24 RVzero.cells) := ⟨zb⟩; clear zm zs zb))
                    (try simp only [Exit.inBlock, Exit.then]); refine bodyPost_ret (results_rowR rfl _ _ gR _ _ _ rfl XR.out Tryz.underlying24 rfl size_xratio) rfl ?_
                    exact ⟨by rw [HQ.out]; rfl, HB.out⟩
                · have hz2 : ((u : Int) != 0) = true := (by rw [bne_iff_ne]; exact hu0)
                  have HQ : Sl (r = (RVzero, 6)) := ⟨by
                    rw [← HR.out]; refine parR_miss HL.out (fun ⟨r0, h1, h2⟩ => ?_); obtain ⟨i9, e0, f, wd, i1, i2, i3, i4, i5, i6, q2, j, j1, j2, j3, rest, r1, r2, r3⟩ := HP.out.word HC.out h1 h2; obtain ⟨h3, h4, h5⟩ := HSM.out _ _ _ _ i2; obtain rfl : i9 = i := (by omega); rw [h3, h4, HU.out] at i6
                    exact hu0 i6⟩
                  go_wp2_with ((with_reducible show wpList _ _ _ _ _ _); first
                    | (refine wpList_store_whole rfl 24 (.tmp 2) (.tmp 65) rfl gR RVzero.cells rfl rfl 24 RVzero.cells XR.out rfl size_xratio (RV.xcells_one _) ?_; rintro w313 zm zs zb; replace HB : Sl (Below w.heap.size w w313) := ⟨below_mv HB.out zm (by have := HB.out.size; have := ORD.out; omega) HB.out.size⟩; replace XQ : Sl (Blk w313 gQ 24 q.cells) := ⟨XQ.out.mv zm (by have := XQ.out.lt; have := ORD.out; omega)⟩; replace XX : Sl (Blk w313 gX 24 (unR i x d).cells) := ⟨XX.out.mv zm (by have := XX.out.lt; have := ORD.out; omega)⟩; replace XR : Sl (Blk w313 gR 24 RVzero.cells) := ⟨zb⟩; clear zm zs zb))
                  (try simp only [Exit.inBlock, Exit.then]); refine bodyPost_ret (results_rowR rfl _ _ gR _ _ _ rfl XR.out Tryz.underlying24 rfl size_xratio) rfl ?_
                  exact ⟨by rw [HQ.out]; rfl, HB.out⟩
        · have hq0 : ((a : Int) == 0) = false := (by rw [beq_eq_false_iff_ne]; omega)
          by_cases ha1 : a < s.size
          · have hq1 : decide ((a : Int) < (s.size : Int)) = true := decide_eq_true (by omega); have HC : Sl (a = 0 ∨ a < s.size) := ⟨.inr ha1⟩
            as_aux_lemma =>
              have hl2 := HL.out; obtain ⟨K, x, d, nx, ok, hv, hok, hgo, hbe, hsm⟩ := termV_out s a ha; have HTM : Sl _ := ⟨fun W : World => term_any s a ha HL.out W⟩; rw [hv] at HTM; have HSM : Sl _ := ⟨hsm⟩; have HGO : Sl _ := ⟨hgo⟩; clear hv hsm hgo
              cases ok with
              | false =>
                clear hok
                have HQ : Sl (r = (RVzero, 6)) := ⟨by
                  rw [← HR.out]; refine parR_miss HL.out (fun ⟨r0, h1, h2⟩ => ?_); obtain ⟨i, e0, f, wd, i1, i2, i3, i4, i5, i6, q2, j, j1, j2, j3, rest, r1, r2, r3⟩ := HP.out.word HC.out h1 h2
                  exact absurd (HGO.out _ _ _ _ i2 i3 i5.1) (by decide)⟩
                go_wp2_with fail; refine (HTM.out _).mono ?_; rintro e w514 ⟨rfl, hb⟩; replace HB : Sl (Below w.heap.size w w514) := ⟨HB.out.trans (hb.mono HB.out.size)⟩; replace XR : Sl (Blk w514 gR 24 RVzero.cells) := ⟨XR.out.below hb XR.out.lt⟩; replace XQ : Sl (Blk w514 gQ 24 q.cells) := ⟨XQ.out.below hb XQ.out.lt⟩; clear hb
                go_wp2_with ((with_reducible show wpList _ _ _ _ _ _); first
                  | (refine wpList_store_whole rfl 24 (.tmp 2) (.tmp 55) rfl gR RVzero.cells rfl rfl 24 RVzero.cells XR.out rfl size_xratio (RV.xcells_one _) ?_; rintro w515 zm zs zb; replace HB : Sl (Below w.heap.size w w515) := ⟨below_mv HB.out zm (by have := HB.out.size; have := ORD.out; omega) HB.out.size⟩; replace XQ : Sl (Blk w515 gQ 24 q.cells) := ⟨XQ.out.mv zm (by have := XQ.out.lt; have := ORD.out; omega)⟩; replace XR : Sl (Blk w515 gR 24 RVzero.cells) := ⟨zb⟩; clear zm zs zb))
                (try simp only [Exit.inBlock, Exit.then]); refine bodyPost_ret (results_rowR rfl _ _ gR _ _ _ rfl XR.out Tryz.underlying24 rfl size_xratio) rfl ?_
                exact ⟨by rw [HQ.out]; rfl, HB.out⟩
              | true =>
                obtain ⟨i, c, ng, n, ht, he, n1, n2, d1, d2, hi, rfl, rfl, c1, c2⟩ := hok rfl; have HT : Sl _ := ⟨ht⟩; have HE : Sl _ := ⟨he⟩; have HN1 : Sl _ := ⟨n1⟩; clear hok ht he n1
                by_cases hbad : (x < -100000 ∨ 100000 < x) ∨ 1000 < d
                · skip
                  have HQ : Sl (r = (RVzero, 6)) := ⟨by
                    rw [← HR.out]; refine parR_miss HL.out (fun ⟨r0, h1, h2⟩ => ?_); obtain ⟨i, e0, f, wd, i1, i2, i3, i4, i5, i6, q2, j, j1, j2, j3, rest, r1, r2, r3⟩ := HP.out.word HC.out h1 h2; have h3 := HSM.out _ _ _ _ i2; have h4 := i4.1; have h5 := i4.2; have h6 := i5.2
                    omega⟩
                  by_cases hx : x < -100000
                  · have hx1 : decide (x < -100000) = true := decide_eq_true hx; go_wp2_with fail; refine (HTM.out _).mono ?_; rintro e w536 ⟨rfl, hb⟩; replace HB : Sl (Below w.heap.size w w536) := ⟨HB.out.trans (hb.mono HB.out.size)⟩; replace XR : Sl (Blk w536 gR 24 RVzero.cells) := ⟨XR.out.below hb XR.out.lt⟩; replace XQ : Sl (Blk w536 gQ 24 q.cells) := ⟨XQ.out.below hb XQ.out.lt⟩; clear hb
                    go_wp2_with ((with_reducible show wpList _ _ _ _ _ _); first
                      | (refine wpList_store_whole rfl 24 (.tmp 2) (.tmp 55) rfl gR RVzero.cells rfl rfl 24 RVzero.cells XR.out rfl size_xratio (RV.xcells_one _) ?_; rintro w537 zm zs zb; replace HB : Sl (Below w.heap.size w w537) := ⟨below_mv HB.out zm (by have := HB.out.size; have := ORD.out; omega) HB.out.size⟩; replace XQ : Sl (Blk w537 gQ 24 q.cells) := ⟨XQ.out.mv zm (by have := XQ.out.lt; have := ORD.out; omega)⟩; replace XR : Sl (Blk w537 gR 24 RVzero.cells) := ⟨zb⟩; clear zm zs zb))
                    (try simp only [Exit.inBlock, Exit.then]); refine bodyPost_ret (results_rowR rfl _ _ gR _ _ _ rfl XR.out Tryz.underlying24 rfl size_xratio) rfl ?_
                    exact ⟨by rw [HQ.out]; rfl, HB.out⟩
                  · have hx1 : decide (x < -100000) = false := decide_eq_false hx
                    by_cases hy : 100000 < x
                    · have hy1 : decide (100000 < x) = true := decide_eq_true hy; go_wp2_with fail; refine (HTM.out _).mono ?_; rintro e w558 ⟨rfl, hb⟩; replace HB : Sl (Below w.heap.size w w558) := ⟨HB.out.trans (hb.mono HB.out.size)⟩; replace XR : Sl (Blk w558 gR 24 RVzero.cells) := ⟨XR.out.below hb XR.out.lt⟩; replace XQ : Sl (Blk w558 gQ 24 q.cells) := ⟨XQ.out.below hb XQ.out.lt⟩; clear hb
                      go_wp2_with ((with_reducible show wpList _ _ _ _ _ _); first
                        | (refine wpList_store_whole rfl 24 (.tmp 2) (.tmp 55) rfl gR RVzero.cells rfl rfl 24 RVzero.cells XR.out rfl size_xratio (RV.xcells_one _) ?_; rintro w559 zm zs zb; replace HB : Sl (Below w.heap.size w w559) := ⟨below_mv HB.out zm (by have := HB.out.size; have := ORD.out; omega) HB.out.size⟩; replace XQ : Sl (Blk w559 gQ 24 q.cells) := ⟨XQ.out.mv zm (by have := XQ.out.lt; have := ORD.out; omega)⟩; replace XR : Sl (Blk w559 gR 24 RVzero.cells) := ⟨zb⟩; clear zm zs zb))
                      (try simp only [Exit.inBlock, Exit.then]); refine bodyPost_ret (results_rowR rfl _ _ gR _ _ _ rfl XR.out Tryz.underlying24 rfl size_xratio) rfl ?_
                      exact ⟨by rw [HQ.out]; rfl, HB.out⟩
                    · have hy1 : decide (100000 < x) = false := decide_eq_false hy; have hz1 : decide (1000 < d) = true := decide_eq_true (by omega); go_wp2_with fail; refine (HTM.out _).mono ?_; rintro e w580 ⟨rfl, hb⟩; replace HB : Sl (Below w.heap.size w w580) := ⟨HB.out.trans (hb.mono HB.out.size)⟩; replace XR : Sl (Blk w580 gR 24 RVzero.cells) := ⟨XR.out.below hb XR.out.lt⟩; replace XQ : Sl (Blk w580 gQ 24 q.cells) := ⟨XQ.out.below hb XQ.out.lt⟩; clear hb
                      go_wp2_with ((with_reducible show wpList _ _ _ _ _ _); first
                        | (refine wpList_store_whole rfl 24 (.tmp 2) (.tmp 55) rfl gR RVzero.cells rfl rfl 24 RVzero.cells XR.out rfl size_xratio (RV.xcells_one _) ?_; rintro w581 zm zs zb; replace HB : Sl (Below w.heap.size w w581) := ⟨below_mv HB.out zm (by have := HB.out.size; have := ORD.out; omega) HB.out.size⟩; replace XQ : Sl (Blk w581 gQ 24 q.cells) := ⟨XQ.out.mv zm (by have := XQ.out.lt; have := ORD.out; omega)⟩; replace XR : Sl (Blk w581 gR 24 RVzero.cells) := ⟨zb⟩; clear zm zs zb))
                      (try simp only [Exit.inBlock, Exit.then]); refine bodyPost_ret (results_rowR rfl _ _ gR _ _ _ rfl XR.out Tryz.underlying24 rfl size_xratio) rfl ?_
                      exact ⟨by rw [HQ.out]; rfl, HB.out⟩
                · have hx1 : decide (x < -100000) = false := decide_eq_false (by omega); have hy1 : decide (100000 < x) = false := decide_eq_false (by omega); have hz1 : decide (1000 < d) = false := decide_eq_false (by omega); have hi0 : (0 : Int) ≤ (i : Int) := (by omega); have hi1 : (i : Int) < 6 := (by omega); go_wp2_with fail; refine (HTM.out _).mono ?_; rintro e w622 ⟨rfl, hb⟩; replace HB : Sl (Below w.heap.size w w622) := ⟨HB.out.trans (hb.mono HB.out.size)⟩; replace XR : Sl (Blk w622 gR 24 RVzero.cells) := ⟨XR.out.below hb XR.out.lt⟩; replace XQ : Sl (Blk w622 gQ 24 q.cells) := ⟨XQ.out.below hb XQ.out.lt⟩; clear hb; clear HTM; obtain ⟨u, hu⟩ : ∃ u, checkS (unR i x d) = u := ⟨_, rfl⟩; have HU : Sl _ := ⟨hu⟩; have HCK : Sl _ := ⟨fun W : World => r4Check_any (unR i x d) W⟩; rw [hu] at HCK; clear hu
                  go_wp2_with ((with_reducible show wpList _ _ _ _ _ _); first
                    | (refine wpList_alloc_new 11 rfl rfl 24 rfl RVzero.cells alloc_xratio ?_; rintro w623 gX zg zm zs zb; replace ORD : Sl (w.heap.size ≤ gR ∧ gR < gQ ∧ gQ < gX) := ⟨by have := HB.out.size; have := ORD.out; have := XR.out.lt; have := XQ.out.lt; omega⟩; replace HB : Sl (Below w.heap.size w w623) := ⟨below_mv HB.out zm (by have := HB.out.size; have := ORD.out; omega) HB.out.size⟩; replace XR : Sl (Blk w623 gR 24 RVzero.cells) := ⟨XR.out.mv zm (by have := XR.out.lt; have := ORD.out; omega)⟩; replace XQ : Sl (Blk w623 gQ 24 q.cells) := ⟨XQ.out.mv zm (by have := XQ.out.lt; have := ORD.out; omega)⟩; have XX : Sl (Blk w623 gX 24 RVzero.cells) := ⟨zb⟩; clear zg zm zs zb)
                    | (refine wpList_store_whole rfl 24 (.tmp 11) (.tmp 57) rfl gX (RV.of (fun _ => 0) d).cells rfl rfl 24 RVzero.cells XX.out rfl size_xratio (RV.xcells_one _) ?_; rintro w624 zm zs zb; replace HB : Sl (Below w.heap.size w w624) := ⟨below_mv HB.out zm (by have := HB.out.size; have := ORD.out; omega) HB.out.size⟩; replace XR : Sl (Blk w624 gR 24 RVzero.cells) := ⟨XR.out.mv zm (by have := XR.out.lt; have := ORD.out; omega)⟩; replace XQ : Sl (Blk w624 gQ 24 q.cells) := ⟨XQ.out.mv zm (by have := XQ.out.lt; have := ORD.out; omega)⟩; replace XX : Sl (Blk w624 gX 24 (RV.of (fun _ => 0) d).cells) := ⟨zb⟩; clear zm zs zb)
                    | (refine wpList_store_int rfl 3 (.tmp 61) (.tmp 59) rfl gX i .i64 x rfl rfl 24 (RV.of (fun _ => 0) d).cells (unR i x d).cells XX.out (by show i < 7; omega) (RV.of_set _ _ _ hi) size_xint ?_; rintro w625 zm zs zb; replace HB : Sl (Below w.heap.size w w625) := ⟨below_mv HB.out zm (by have := HB.out.size; have := ORD.out; omega) HB.out.size⟩; replace XR : Sl (Blk w625 gR 24 RVzero.cells) := ⟨XR.out.mv zm (by have := XR.out.lt; have := ORD.out; omega)⟩; replace XQ : Sl (Blk w625 gQ 24 q.cells) := ⟨XQ.out.mv zm (by have := XQ.out.lt; have := ORD.out; omega)⟩; replace XX : Sl (Blk w625 gX 24 (unR i x d).cells) := ⟨zb⟩; clear zm zs zb)
                    | (refine wpList_load_whole rfl 24 (.tmp 11) rfl gX rfl 24 (unR i x d).cells _ XX.out Tryz.underlying24 rfl size_xratio ?_))
                  refine (HCK.out _).mono ?_; rintro e w626 ⟨rfl, hb⟩; replace HB : Sl (Below w.heap.size w w626) := ⟨HB.out.trans (hb.mono HB.out.size)⟩; replace XR : Sl (Blk w626 gR 24 RVzero.cells) := ⟨XR.out.below hb XR.out.lt⟩; replace XQ : Sl (Blk w626 gQ 24 q.cells) := ⟨XQ.out.below hb XQ.out.lt⟩; replace XX : Sl (Blk w626 gX 24 (unR i x d).cells) := ⟨XX.out.below hb XX.out.lt⟩; clear hb; clear HCK
                  by_cases hu0 : u = 0
                  · subst hu0; obtain ⟨⟨q', u2⟩, hj⟩ : ∃ y, joinS q (unR i x d) 1 = y := ⟨_, rfl⟩; have HJ : Sl _ := ⟨hj⟩; have HMU : Sl _ := ⟨fun W : World => r4Mul_any q (unR i x d) W⟩; rw [hj] at HMU; clear hj
                    go_wp2_with ((with_reducible show wpList _ _ _ _ _ _); first
                      | (refine wpList_load_whole rfl 24 (.tmp 4) rfl gQ rfl 24 q.cells _ XQ.out Tryz.underlying24 rfl size_xratio ?_)
                      | (refine wpList_load_whole rfl 24 (.tmp 11) rfl gX rfl 24 (unR i x d).cells _ XX.out Tryz.underlying24 rfl size_xratio ?_))
                    refine (HMU.out _).mono ?_; rintro e w627 ⟨hof, hb⟩; replace HB : Sl (Below w.heap.size w w627) := ⟨HB.out.trans (hb.mono HB.out.size)⟩; replace XR : Sl (Blk w627 gR 24 RVzero.cells) := ⟨XR.out.below hb XR.out.lt⟩; replace XQ : Sl (Blk w627 gQ 24 q.cells) := ⟨XQ.out.below hb XQ.out.lt⟩; replace XX : Sl (Blk w627 gX 24 (unR i x d).cells) := ⟨XX.out.below hb XX.out.lt⟩; clear hb; unfold OfRes at hof; subst hof; clear HMU
                    by_cases hu2 : u2 = 0
                    · subst hu2; have HPN : Sl _ := ⟨HP.out.next HC.out HT.out HE.out HN1.out HU.out HJ.out⟩
                      by_cases hlast : a + c < s.size
                      · have hlI : decide (((a + c : Nat) : Int) < (s.size : Int)) = true := decide_eq_true (by omega); rw [if_pos hlast] at HPN
                        go_wp2_with ((with_reducible show wpList _ _ _ _ _ _); first
                          | (refine wpList_alloc_new 12 rfl rfl 24 rfl RVzero.cells alloc_xratio ?_; rintro w628 gY zg zm zs zb; replace ORD : Sl (w.heap.size ≤ gR ∧ gR < gQ ∧ gQ < gX ∧ gX < gY) := ⟨by have := HB.out.size; have := ORD.out; have := XR.out.lt; have := XQ.out.lt; have := XX.out.lt; omega⟩; replace HB : Sl (Below w.heap.size w w628) := ⟨below_mv HB.out zm (by have := HB.out.size; have := ORD.out; omega) HB.out.size⟩; replace XR : Sl (Blk w628 gR 24 RVzero.cells) := ⟨XR.out.mv zm (by have := XR.out.lt; have := ORD.out; omega)⟩; replace XQ : Sl (Blk w628 gQ 24 q.cells) := ⟨XQ.out.mv zm (by have := XQ.out.lt; have := ORD.out; omega)⟩; replace XX : Sl (Blk w628 gX 24 (unR i x d).cells) := ⟨XX.out.mv zm (by have := XX.out.lt; have := ORD.out; omega)⟩; have XY : Sl (Blk w628 gY 24 RVzero.cells) := ⟨zb⟩; clear zg zm zs zb)
                          | (refine wpList_store_whole rfl 24 (.tmp 12) (.tmp 70) rfl gY q'.cells rfl rfl 24 RVzero.cells XY.out rfl size_xratio (RV.xcells_one _) ?_; rintro w629 zm zs zb; replace HB : Sl (Below w.heap.size w w629) := ⟨below_mv HB.out zm (by have := HB.out.size; have := ORD.out; omega) HB.out.size⟩; replace XR : Sl (Blk w629 gR 24 RVzero.cells) := ⟨XR.out.mv zm (by have := XR.out.lt; have := ORD.out; omega)⟩; replace XQ : Sl (Blk w629 gQ 24 q.cells) := ⟨XQ.out.mv zm (by have := XQ.out.lt; have := ORD.out; omega)⟩; replace XX : Sl (Blk w629 gX 24 (unR i x d).cells) := ⟨XX.out.mv zm (by have := XX.out.lt; have := ORD.out; omega)⟩; replace XY : Sl (Blk w629 gY 24 q'.cells) := ⟨zb⟩; clear zm zs zb)
                          | (refine wpList_load_whole rfl 24 (.tmp 12) rfl gY rfl 24 q'.cells _ XY.out Tryz.underlying24 rfl size_xratio ?_)
                          | (refine wpList_store_whole rfl 24 (.tmp 4) (.tmp 75) rfl gQ q'.cells rfl rfl 24 q.cells XQ.out rfl size_xratio (RV.xcells_one _) ?_; rintro w630 zm zs zb; replace HB : Sl (Below w.heap.size w w630) := ⟨below_mv HB.out zm (by have := HB.out.size; have := ORD.out; omega) HB.out.size⟩; replace XR : Sl (Blk w630 gR 24 RVzero.cells) := ⟨XR.out.mv zm (by have := XR.out.lt; have := ORD.out; omega)⟩; replace XX : Sl (Blk w630 gX 24 (unR i x d).cells) := ⟨XX.out.mv zm (by have := XX.out.lt; have := ORD.out; omega)⟩; replace XY : Sl (Blk w630 gY 24 q'.cells) := ⟨XY.out.mv zm (by have := XY.out.lt; have := ORD.out; omega)⟩; replace XQ : Sl (Blk w630 gQ 24 q'.cells) := ⟨zb⟩; clear zm zs zb))
                        exact ⟨⟨a + c + 1, q', by omega, by go_num, HPN, HB, XR, XQ⟩, by simp [RowKit.intOf]; omega⟩
                      · have hlI : decide (((a + c : Nat) : Int) < (s.size : Int)) = false := decide_eq_false (by omega); rw [if_neg hlast] at HPN
                        go_wp2_with ((with_reducible show wpList _ _ _ _ _ _); first
                          | (refine wpList_alloc_new 12 rfl rfl 24 rfl RVzero.cells alloc_xratio ?_; rintro w651 gY zg zm zs zb; replace ORD : Sl (w.heap.size ≤ gR ∧ gR < gQ ∧ gQ < gX ∧ gX < gY) := ⟨by have := HB.out.size; have := ORD.out; have := XR.out.lt; have := XQ.out.lt; have := XX.out.lt; omega⟩; replace HB : Sl (Below w.heap.size w w651) := ⟨below_mv HB.out zm (by have := HB.out.size; have := ORD.out; omega) HB.out.size⟩; replace XR : Sl (Blk w651 gR 24 RVzero.cells) := ⟨XR.out.mv zm (by have := XR.out.lt; have := ORD.out; omega)⟩; replace XQ : Sl (Blk w651 gQ 24 q.cells) := ⟨XQ.out.mv zm (by have := XQ.out.lt; have := ORD.out; omega)⟩; replace XX : Sl (Blk w651 gX 24 (unR i x d).cells) := ⟨XX.out.mv zm (by have := XX.out.lt; have := ORD.out; omega)⟩; have XY : Sl (Blk w651 gY 24 RVzero.cells) := ⟨zb⟩; clear zg zm zs zb)
                          | (refine wpList_store_whole rfl 24 (.tmp 12) (.tmp 70) rfl gY q'.cells rfl rfl 24 RVzero.cells XY.out rfl size_xratio (RV.xcells_one _) ?_; rintro w652 zm zs zb; replace HB : Sl (Below w.heap.size w w652) := ⟨below_mv HB.out zm (by have := HB.out.size; have := ORD.out; omega) HB.out.size⟩; replace XR : Sl (Blk w652 gR 24 RVzero.cells) := ⟨XR.out.mv zm (by have := XR.out.lt; have := ORD.out; omega)⟩; replace XQ : Sl (Blk w652 gQ 24 q.cells) := ⟨XQ.out.mv zm (by have := XQ.out.lt; have := ORD.out; omega)⟩; replace XX : Sl (Blk w652 gX 24 (unR i x d).cells) := ⟨XX.out.mv zm (by have := XX.out.lt; have := ORD.out; omega)⟩; replace XY : Sl (Blk w652 gY 24 q'.cells) := ⟨zb⟩; clear zm zs zb)
                          | (refine wpList_load_whole rfl 24 (.tmp 12) rfl gY rfl 24 q'.cells _ XY.out Tryz.underlying24 rfl size_xratio ?_)
                          | (refine wpList_store_whole rfl 24 (.tmp 4) (.tmp 75) rfl gQ q'.cells rfl rfl 24 q.cells XQ.out rfl size_xratio (RV.xcells_one _) ?_; rintro w653 zm zs zb; replace HB : Sl (Below w.heap.size w w653) := ⟨below_mv HB.out zm (by have := HB.out.size; have := ORD.out; omega) HB.out.size⟩; replace XR : Sl (Blk w653 gR 24 RVzero.cells) := ⟨XR.out.mv zm (by have := XR.out.lt; have := ORD.out; omega)⟩; replace XX : Sl (Blk w653 gX 24 (unR i x d).cells) := ⟨XX.out.mv zm (by have := XX.out.lt; have := ORD.out; omega)⟩; replace XY : Sl (Blk w653 gY 24 q'.cells) := ⟨XY.out.mv zm (by have := XY.out.lt; have := ORD.out; omega)⟩; replace XQ : Sl (Blk w653 gQ 24 q'.cells) := ⟨zb⟩; clear zm zs zb))
                        exact ⟨⟨a + c, q', by omega, by go_num, HPN, HB, XR, XQ⟩, by simp [RowKit.intOf]; omega⟩
                    · have hz2 : ((u2 : Int) != 0) = true := (by rw [bne_iff_ne]; exact hu2)
                      have HQ : Sl (r = (RVzero, 6)) := ⟨by
                        rw [← HR.out]; refine parR_miss HL.out (fun ⟨r0, h1, h2⟩ => ?_); obtain ⟨i9, e0, f, wd, i1, i2, i3, i4, i5, i6, q2, j, j1, j2, j3, rest, r1, r2, r3⟩ := HP.out.word HC.out h1 h2; obtain ⟨h3, h4, h5⟩ := HSM.out _ _ _ _ i2; obtain rfl : i9 = i := (by omega); rw [h3, h4, HJ.out] at j1; injection j1 with _ j1
                        exact hu2 j1⟩
                      go_wp2_with ((with_reducible show wpList _ _ _ _ _ _); first
                        | (refine wpList_alloc_new 12 rfl rfl 24 rfl RVzero.cells alloc_xratio ?_; rintro w714 gY zg zm zs zb; replace ORD : Sl (w.heap.size ≤ gR ∧ gR < gQ ∧ gQ < gX ∧ gX < gY) := ⟨by have := HB.out.size; have := ORD.out; have := XR.out.lt; have := XQ.out.lt; have := XX.out.lt; omega⟩; replace HB : Sl (Below w.heap.size w w714) := ⟨below_mv HB.out zm (by have := HB.out.size; have := ORD.out; omega) HB.out.size⟩; replace XR : Sl (Blk w714 gR 24 RVzero.cells) := ⟨XR.out.mv zm (by have := XR.out.lt; have := ORD.out; omega)⟩; replace XQ : Sl (Blk w714 gQ 24 q.cells) := ⟨XQ.out.mv zm (by have := XQ.out.lt; have := ORD.out; omega)⟩; replace XX : Sl (Blk w714 gX 24 (unR i x d).cells) := ⟨XX.out.mv zm (by have := XX.out.lt; have := ORD.out; omega)⟩; have XY : Sl (Blk w714 gY 24 RVzero.cells) := ⟨zb⟩; clear zg zm zs zb)
                        | (refine wpList_store_whole rfl 24 (.tmp 12) (.tmp 70) rfl gY q'.cells rfl rfl 24 RVzero.cells XY.out rfl size_xratio (RV.xcells_one _) ?_; rintro w715 zm zs zb; replace HB : Sl (Below w.heap.size w w715) := ⟨below_mv HB.out zm (by have := HB.out.size; have := ORD.out; omega) HB.out.size⟩; replace XR : Sl (Blk w715 gR 24 RVzero.cells) := ⟨XR.out.mv zm (by have := XR.out.lt; have := ORD.out; omega)⟩; replace XQ : Sl (Blk w715 gQ 24 q.cells) := ⟨XQ.out.mv zm (by have := XQ.out.lt; have := ORD.out; omega)⟩; replace XX : Sl (Blk w715 gX 24 (unR i x d).cells) := ⟨XX.out.mv zm (by have := XX.out.lt; have := ORD.out; omega)⟩; replace XY : Sl (Blk w715 gY 24 q'.cells) := ⟨zb⟩; clear zm zs zb)
                        | (refine wpList_store_whole rfl 24 (.tmp 2) (.tmp 74) rfl gR RVzero.cells rfl rfl 24 RVzero.cells XR.out rfl size_xratio (RV.xcells_one _) ?_; rintro w716 zm zs zb; replace HB : Sl (Below w.heap.size w w716) := ⟨below_mv HB.out zm (by have := HB.out.size; have := ORD.out; omega) HB.out.size⟩; replace XQ : Sl (Blk w716 gQ 24 q.cells) := ⟨XQ.out.mv zm (by have := XQ.out.lt; have := ORD.out; omega)⟩; replace XX : Sl (Blk w716 gX 24 (unR i x d).cells) := ⟨XX.out.mv zm (by have := XX.out.lt; have := ORD.out; omega)⟩; replace XY : Sl (Blk w716 gY 24 q'.cells) := ⟨XY.out.mv zm (by have := XY.out.lt; have := ORD.out; omega)⟩; replace XR : Sl (Blk w716 gR 24 RVzero.cells) := ⟨zb⟩; clear zm zs zb))
                      (try simp only [Exit.inBlock, Exit.then]); refine bodyPost_ret (results_rowR rfl _ _ gR _ _ _ rfl XR.out Tryz.underlying24 rfl size_xratio) rfl ?_
                      exact ⟨by rw [HQ.out]; rfl, HB.out⟩
                  · have hz2 : ((u : Int) != 0) = true := (by rw [bne_iff_ne]; exact hu0)
                    have HQ : Sl (r = (RVzero, 6)) := ⟨by
                      rw [← HR.out]; refine parR_miss HL.out (fun ⟨r0, h1, h2⟩ => ?_); obtain ⟨i9, e0, f, wd, i1, i2, i3, i4, i5, i6, q2, j, j1, j2, j3, rest, r1, r2, r3⟩ := HP.out.word HC.out h1 h2; obtain ⟨h3, h4, h5⟩ := HSM.out _ _ _ _ i2; obtain rfl : i9 = i := (by omega); rw [h3, h4, HU.out] at i6
                      exact hu0 i6⟩
                    go_wp2_with ((with_reducible show wpList _ _ _ _ _ _); first
                      | (refine wpList_store_whole rfl 24 (.tmp 2) (.tmp 65) rfl gR RVzero.cells rfl rfl 24 RVzero.cells XR.out rfl size_xratio (RV.xcells_one _) ?_; rintro w797 zm zs zb; replace HB : Sl (Below w.heap.size w w797) := ⟨below_mv HB.out zm (by have := HB.out.size; have := ORD.out; omega) HB.out.size⟩; replace XQ : Sl (Blk w797 gQ 24 q.cells) := ⟨XQ.out.mv zm (by have := XQ.out.lt; have := ORD.out; omega)⟩; replace XX : Sl (Blk w797 gX 24 (unR i x d).cells) := ⟨XX.out.mv zm (by have := XX.out.lt; have := ORD.out; omega)⟩; replace XR : Sl (Blk w797 gR 24 RVzero.cells) := ⟨zb⟩; clear zm zs zb))
                    (try simp only [Exit.inBlock, Exit.then]); refine bodyPost_ret (results_rowR rfl _ _ gR _ _ _ rfl XR.out Tryz.underlying24 rfl size_xratio) rfl ?_
                    exact ⟨by rw [HQ.out]; rfl, HB.out⟩
          · have hq1 : decide ((a : Int) < (s.size : Int)) = false := decide_eq_false (by omega); have HLS : Sl _ := ⟨fun (r0 : RV) (h1 : checkS r0 = 0) (h2 : txR r0 = s.data.toList) => HP.out.last (by omega) (by omega) h1 h2⟩; have HTX : Sl (∀ W : World, Calls Tryz.prog 6 #[.agg q.cells] W fun e w' => e = .returned (.tuple #[.string (xB (txR q)), .int .i64 0]) ∧ Below W.heap.size W w') := ⟨fun W => (r4Text_any q W).mono fun e w' hh => ⟨hh.1.2 HP.out.1, hh.2⟩⟩
            by_cases hx : xB (txR q) = s
            · have HQ : Sl (r = (q, 0)) := ⟨by rw [← HR.out]; exact parR_hit HL.out HP.out.1 (by rw [← hx, xB_list])⟩; rw [hx] at HTX; clear hx
              go_wp2_with ((with_reducible show wpList _ _ _ _ _ _); first
                | (refine wpList_load_whole rfl 24 (.tmp 4) rfl gQ rfl 24 q.cells _ XQ.out Tryz.underlying24 rfl size_xratio ?_))
              refine (HTX.out _).mono ?_; rintro e w998 ⟨rfl, hb⟩; replace HB : Sl (Below w.heap.size w w998) := ⟨HB.out.trans (hb.mono HB.out.size)⟩; replace XR : Sl (Blk w998 gR 24 RVzero.cells) := ⟨XR.out.below hb XR.out.lt⟩; replace XQ : Sl (Blk w998 gQ 24 q.cells) := ⟨XQ.out.below hb XQ.out.lt⟩; clear hb
              go_wp2_with ((with_reducible show wpList _ _ _ _ _ _); first
                | (refine wpList_load_whole rfl 24 (.tmp 4) rfl gQ rfl 24 q.cells _ XQ.out Tryz.underlying24 rfl size_xratio ?_)
                | (refine wpList_store_whole rfl 24 (.tmp 2) (.tmp 92) rfl gR q.cells rfl rfl 24 RVzero.cells XR.out rfl size_xratio (RV.xcells_one _) ?_; rintro w999 zm zs zb; replace HB : Sl (Below w.heap.size w w999) := ⟨below_mv HB.out zm (by have := HB.out.size; have := ORD.out; omega) HB.out.size⟩; replace XQ : Sl (Blk w999 gQ 24 q.cells) := ⟨XQ.out.mv zm (by have := XQ.out.lt; have := ORD.out; omega)⟩; replace XR : Sl (Blk w999 gR 24 q.cells) := ⟨zb⟩; clear zm zs zb))
              (try simp only [Exit.inBlock, Exit.then]); refine bodyPost_ret (results_rowR rfl _ _ gR _ _ _ rfl XR.out Tryz.underlying24 rfl size_xratio) rfl ?_
              exact ⟨by rw [HQ.out]; rfl, HB.out⟩
            · have HQ : Sl (r = (RVzero, 6)) := ⟨by
                rw [← HR.out]; refine parR_miss HL.out (fun ⟨r0, h1, h2⟩ => hx ?_); rw [HLS.out r0 h1 h2, h2]
                cases s; simp [xB]⟩
              obtain ⟨T, hT⟩ : ∃ x, xB (txR q) = x := ⟨_, rfl⟩; rw [hT] at HTX hx; have hq2 : (T.toList == s.toList) = false := (by rw [beq_eq_false_iff_ne]; exact fun h => hx (xbytes_eq h)); clear hx hT
              go_wp2_with ((with_reducible show wpList _ _ _ _ _ _); first
                | (refine wpList_load_whole rfl 24 (.tmp 4) rfl gQ rfl 24 q.cells _ XQ.out Tryz.underlying24 rfl size_xratio ?_))
              refine (HTX.out _).mono ?_; rintro e w1020 ⟨rfl, hb⟩; replace HB : Sl (Below w.heap.size w w1020) := ⟨HB.out.trans (hb.mono HB.out.size)⟩; replace XR : Sl (Blk w1020 gR 24 RVzero.cells) := ⟨XR.out.below hb XR.out.lt⟩; replace XQ : Sl (Blk w1020 gQ 24 q.cells) := ⟨XQ.out.below hb XQ.out.lt⟩; clear hb
              go_wp2_with ((with_reducible show wpList _ _ _ _ _ _); first
                | (refine wpList_store_whole rfl 24 (.tmp 2) (.tmp 91) rfl gR RVzero.cells rfl rfl 24 RVzero.cells XR.out rfl size_xratio (RV.xcells_one _) ?_; rintro w1021 zm zs zb; replace HB : Sl (Below w.heap.size w w1021) := ⟨below_mv HB.out zm (by have := HB.out.size; have := ORD.out; omega) HB.out.size⟩; replace XQ : Sl (Blk w1021 gQ 24 q.cells) := ⟨XQ.out.mv zm (by have := XQ.out.lt; have := ORD.out; omega)⟩; replace XR : Sl (Blk w1021 gR 24 RVzero.cells) := ⟨zb⟩; clear zm zs zb))
              (try simp only [Exit.inBlock, Exit.then]); refine bodyPost_ret (results_rowR rfl _ _ gR _ _ _ rfl XR.out Tryz.underlying24 rfl size_xratio) rfl ?_
              exact ⟨by rw [HQ.out]; rfl, HB.out⟩
end Go.Proofs.YtalodfjplegibaaGreatDoor
