/- Package temper: Standard; the law's named. (Printed by gentemx.py.) The law's awake of chapter 05. (Printed by gentemy.py.) -/
import Derived.Test.YtmcoadmnkelkkaaDoorTemW
import Derived.Test.YtmcoadmnkelkkaaDoorShelf
namespace Go.Proofs.YtmcoadmnkelkkaaDoor
set_option linter.unusedSimpArgs false
open Go.RowKit
set_option linter.unusedVariables false

/-- the standard temperaments -/
def stdT (nm : ByteArray) : TV × Int :=
  if (nm.toList == [101, 113, 117, 97, 108]) = true then (TV.mk5 nm false 11 12 [0, 1, 2, 3, 4, 5, 6, 7, 8, 9, 10] 12, 0) else
  if (nm.toList == [112, 121, 116, 104, 97, 103, 111, 114, 101, 97, 110]) = true then (TV.mk5 nm false 8 1 [] 12, 0) else
  if (nm.toList == [109, 101, 97, 110, 116, 111, 110, 101]) = true then (TV.mk5 nm true 8 4 [0, 1, 2, 3, 4, 5, 6, 7, 9, 10, 11] 12, 0) else
  if (nm.toList == [119, 101, 114, 99, 107, 109, 101, 105, 115, 116, 101, 114]) = true then (TV.mk5 nm false 11 4 [0, 1, 2, 5] 12, 0) else
  if (nm.toList == [107, 105, 114, 110, 98, 101, 114, 103, 101, 114]) = true then (TV.mk5 nm true 6 4 [0, 1, 2, 3] 12, 0) else
  if (nm.toList == [118, 97, 108, 108, 111, 116, 116, 105]) = true then (TV.mk5 nm false 6 6 [0, 1, 2, 3, 4, 11] 12, 0) else
  if (nm.toList == [121, 111, 117, 110, 103]) = true then (TV.mk5 nm false 11 6 [0, 1, 2, 3, 4, 5] 12, 0) else
  (TV0, 4)
theorem contains_blk {w : World} {g : Nat} {t : TypeId} {L : List Int} (hB : Blk w g t (ints L).toArray) (n : Nat) (hn : L.length = n) (hm : n ≤ 1000) : Sl (∀ (W : World) (x : Int), Below w.heap.size w W → Calls Tryd.prog 47 #[.slice (some ⟨g, 0, none⟩) n n, .int .i64 x] W fun e w' => e = .returned (.bool (L.contains x)) ∧ w' = W) := ⟨fun W x h => by
  have X := hB.below h hB.lt
  have key := Tryd.slices_Contains_int g 0 n n L x W (by omega)
  rw [← hn, List.take_length] at key
  have := key (by omega) (fun j hj => by
    rw [Nat.zero_add, X.cell]
    unfold ints
    simp [hj])
  rw [hn] at this
  exact this⟩
theorem contains_none {w : World} : Sl (∀ (W : World) (x : Int), Below w.heap.size w W → Calls Tryd.prog 47 #[.slice none 0 0, .int .i64 x] W fun e w' => e = .returned (.bool (([] : List Int).contains x)) ∧ w' = W) := ⟨fun W x h => Tryd.slices_Contains_int_empty none 0 x W⟩
attribute [-simp] Tryd.isAgg26
set_option maxHeartbeats 6400000 in
set_option maxRecDepth 100000 in
theorem Standard_any (nm : ByteArray) (w : World) : Calls Tryd.prog 15 #[.string nm] w fun e w' => e = .returned (.tuple #[.agg (stdT nm).1.cells, .int .i64 (stdT nm).2]) ∧ Below w.heap.size w w' := by
  have HB : Sl (Below w.heap.size w w) := ⟨Below.refl _ _⟩
  obtain ⟨sr, hsr⟩ : ∃ x, stdT nm = x := ⟨_, rfl⟩
  rw [hsr]
  have HSR : Sl _ := ⟨hsr⟩
  clear hsr
  by_cases h0 : (nm.toList == [101, 113, 117, 97, 108]) = true
  · have HV : Sl (sr = (TV.mk5 nm false 11 12 [0, 1, 2, 3, 4, 5, 6, 7, 8, 9, 10] 12, 0)) := ⟨by rw [← HSR.out]; unfold stdT; rw [if_pos h0]⟩
    go_enter Tryd.func15, Tryd.ntmps15
    go_wp2_with ((with_reducible show wpList _ _ _ _ _ _); first
      | (refine wpList_alloc_new 2 rfl rfl 26 rfl TV0.cells alloc_temper ?_; rintro w1 gR zg zm zs zb; have ORD : Sl (w.heap.size ≤ gR) := ⟨by have := HB.out.size; omega⟩; replace HB : Sl (Below w.heap.size w w1) := ⟨below_mv HB.out zm (by have := HB.out.size; have := ORD.out; omega) HB.out.size⟩; have XR : Sl (Blk w1 gR 26 TV0.cells) := ⟨zb⟩; clear zg zm zs zb))
    have hbx : Below w1.heap.size w1 (w1.alloc (.cells (ints [0, 1, 2, 3, 4, 5, 6, 7, 8, 9, 10]).toArray 3)) := (Below.refl _ _).alloc (Nat.le_refl _) _
    have HXB : Sl (Blk (w1.alloc (.cells (ints [0, 1, 2, 3, 4, 5, 6, 7, 8, 9, 10]).toArray 3)) w1.heap.size 3 (ints [0, 1, 2, 3, 4, 5, 6, 7, 8, 9, 10]).toArray) := ⟨Blk.new _ _ _⟩
    replace HB : Sl (Below w.heap.size w (w1.alloc (.cells (ints [0, 1, 2, 3, 4, 5, 6, 7, 8, 9, 10]).toArray 3))) := ⟨HB.out.trans (hbx.mono HB.out.size)⟩
    replace XR : Sl (Blk (w1.alloc (.cells (ints [0, 1, 2, 3, 4, 5, 6, 7, 8, 9, 10]).toArray 3)) gR 26 TV0.cells) := ⟨XR.out.below hbx XR.out.lt⟩
    clear hbx
    refine (tempered_any nm false 11 12 [0, 1, 2, 3, 4, 5, 6, 7, 8, 9, 10] _ (w1.alloc (.cells (ints [0, 1, 2, 3, 4, 5, 6, 7, 8, 9, 10]).toArray 3)) (contains_blk HXB.out 11 rfl (by decide))).mono ?_; rintro e w3 ⟨rfl, hb⟩
    replace HB : Sl (Below w.heap.size w w3) := ⟨HB.out.trans (hb.mono HB.out.size)⟩
    replace XR : Sl (Blk w3 gR 26 TV0.cells) := ⟨XR.out.below hb XR.out.lt⟩
    clear hb
    go_wp2_with ((with_reducible show wpList _ _ _ _ _ _); first
      | (refine wpList_store_whole rfl 26 (.tmp 2) (.tmp 10) rfl gR (TV.mk5 nm false 11 12 [0, 1, 2, 3, 4, 5, 6, 7, 8, 9, 10] 12).cells rfl rfl 26 TV0.cells XR.out rfl (size_temper _) (TV.cells_one _) ?_; rintro w4 zm zs zb; replace HB : Sl (Below w.heap.size w w4) := ⟨below_mv HB.out zm (by have := HB.out.size; have := ORD.out; omega) HB.out.size⟩; replace XR : Sl (Blk w4 gR 26 (TV.mk5 nm false 11 12 [0, 1, 2, 3, 4, 5, 6, 7, 8, 9, 10] 12).cells) := ⟨zb⟩; clear zm zs zb))
    refine bodyPost_ret (results_rowR rfl _ _ gR _ _ _ rfl XR.out Tryd.underlying26 rfl (size_temper _)) rfl ?_
    exact ⟨by rw [HV.out]; rfl, HB.out⟩
  by_cases h1 : (nm.toList == [112, 121, 116, 104, 97, 103, 111, 114, 101, 97, 110]) = true
  · have HV : Sl (sr = (TV.mk5 nm false 8 1 [] 12, 0)) := ⟨by rw [← HSR.out]; unfold stdT; rw [if_neg h0, if_pos h1]⟩
    have e0 : (nm.toList == [101, 113, 117, 97, 108]) = false := by simpa using h0
    clear h0
    go_enter Tryd.func15, Tryd.ntmps15
    go_wp2_with ((with_reducible show wpList _ _ _ _ _ _); first
      | (refine wpList_alloc_new 2 rfl rfl 26 rfl TV0.cells alloc_temper ?_; rintro w15 gR zg zm zs zb; have ORD : Sl (w.heap.size ≤ gR) := ⟨by have := HB.out.size; omega⟩; replace HB : Sl (Below w.heap.size w w15) := ⟨below_mv HB.out zm (by have := HB.out.size; have := ORD.out; omega) HB.out.size⟩; have XR : Sl (Blk w15 gR 26 TV0.cells) := ⟨zb⟩; clear zg zm zs zb))
    refine (tempered_any nm false 8 1 [] _ _ contains_none).mono ?_; rintro e w16 ⟨rfl, hb⟩
    replace HB : Sl (Below w.heap.size w w16) := ⟨HB.out.trans (hb.mono HB.out.size)⟩
    replace XR : Sl (Blk w16 gR 26 TV0.cells) := ⟨XR.out.below hb XR.out.lt⟩
    clear hb
    go_wp2_with ((with_reducible show wpList _ _ _ _ _ _); first
      | (refine wpList_store_whole rfl 26 (.tmp 2) (.tmp 16) rfl gR (TV.mk5 nm false 8 1 [] 12).cells rfl rfl 26 TV0.cells XR.out rfl (size_temper _) (TV.cells_one _) ?_; rintro w17 zm zs zb; replace HB : Sl (Below w.heap.size w w17) := ⟨below_mv HB.out zm (by have := HB.out.size; have := ORD.out; omega) HB.out.size⟩; replace XR : Sl (Blk w17 gR 26 (TV.mk5 nm false 8 1 [] 12).cells) := ⟨zb⟩; clear zm zs zb))
    refine bodyPost_ret (results_rowR rfl _ _ gR _ _ _ rfl XR.out Tryd.underlying26 rfl (size_temper _)) rfl ?_
    exact ⟨by rw [HV.out]; rfl, HB.out⟩
  by_cases h2 : (nm.toList == [109, 101, 97, 110, 116, 111, 110, 101]) = true
  · have HV : Sl (sr = (TV.mk5 nm true 8 4 [0, 1, 2, 3, 4, 5, 6, 7, 9, 10, 11] 12, 0)) := ⟨by rw [← HSR.out]; unfold stdT; rw [if_neg h0, if_neg h1, if_pos h2]⟩
    have e0 : (nm.toList == [101, 113, 117, 97, 108]) = false := by simpa using h0
    have e1 : (nm.toList == [112, 121, 116, 104, 97, 103, 111, 114, 101, 97, 110]) = false := by simpa using h1
    clear h0
    clear h1
    go_enter Tryd.func15, Tryd.ntmps15
    go_wp2_with ((with_reducible show wpList _ _ _ _ _ _); first
      | (refine wpList_alloc_new 2 rfl rfl 26 rfl TV0.cells alloc_temper ?_; rintro w28 gR zg zm zs zb; have ORD : Sl (w.heap.size ≤ gR) := ⟨by have := HB.out.size; omega⟩; replace HB : Sl (Below w.heap.size w w28) := ⟨below_mv HB.out zm (by have := HB.out.size; have := ORD.out; omega) HB.out.size⟩; have XR : Sl (Blk w28 gR 26 TV0.cells) := ⟨zb⟩; clear zg zm zs zb))
    have hbx : Below w28.heap.size w28 (w28.alloc (.cells (ints [0, 1, 2, 3, 4, 5, 6, 7, 9, 10, 11]).toArray 3)) := (Below.refl _ _).alloc (Nat.le_refl _) _
    have HXB : Sl (Blk (w28.alloc (.cells (ints [0, 1, 2, 3, 4, 5, 6, 7, 9, 10, 11]).toArray 3)) w28.heap.size 3 (ints [0, 1, 2, 3, 4, 5, 6, 7, 9, 10, 11]).toArray) := ⟨Blk.new _ _ _⟩
    replace HB : Sl (Below w.heap.size w (w28.alloc (.cells (ints [0, 1, 2, 3, 4, 5, 6, 7, 9, 10, 11]).toArray 3))) := ⟨HB.out.trans (hbx.mono HB.out.size)⟩
    replace XR : Sl (Blk (w28.alloc (.cells (ints [0, 1, 2, 3, 4, 5, 6, 7, 9, 10, 11]).toArray 3)) gR 26 TV0.cells) := ⟨XR.out.below hbx XR.out.lt⟩
    clear hbx
    refine (tempered_any nm true 8 4 [0, 1, 2, 3, 4, 5, 6, 7, 9, 10, 11] _ (w28.alloc (.cells (ints [0, 1, 2, 3, 4, 5, 6, 7, 9, 10, 11]).toArray 3)) (contains_blk HXB.out 11 rfl (by decide))).mono ?_; rintro e w30 ⟨rfl, hb⟩
    replace HB : Sl (Below w.heap.size w w30) := ⟨HB.out.trans (hb.mono HB.out.size)⟩
    replace XR : Sl (Blk w30 gR 26 TV0.cells) := ⟨XR.out.below hb XR.out.lt⟩
    clear hb
    go_wp2_with ((with_reducible show wpList _ _ _ _ _ _); first
      | (refine wpList_store_whole rfl 26 (.tmp 2) (.tmp 23) rfl gR (TV.mk5 nm true 8 4 [0, 1, 2, 3, 4, 5, 6, 7, 9, 10, 11] 12).cells rfl rfl 26 TV0.cells XR.out rfl (size_temper _) (TV.cells_one _) ?_; rintro w31 zm zs zb; replace HB : Sl (Below w.heap.size w w31) := ⟨below_mv HB.out zm (by have := HB.out.size; have := ORD.out; omega) HB.out.size⟩; replace XR : Sl (Blk w31 gR 26 (TV.mk5 nm true 8 4 [0, 1, 2, 3, 4, 5, 6, 7, 9, 10, 11] 12).cells) := ⟨zb⟩; clear zm zs zb))
    refine bodyPost_ret (results_rowR rfl _ _ gR _ _ _ rfl XR.out Tryd.underlying26 rfl (size_temper _)) rfl ?_
    exact ⟨by rw [HV.out]; rfl, HB.out⟩
  by_cases h3 : (nm.toList == [119, 101, 114, 99, 107, 109, 101, 105, 115, 116, 101, 114]) = true
  · have HV : Sl (sr = (TV.mk5 nm false 11 4 [0, 1, 2, 5] 12, 0)) := ⟨by rw [← HSR.out]; unfold stdT; rw [if_neg h0, if_neg h1, if_neg h2, if_pos h3]⟩
    have e0 : (nm.toList == [101, 113, 117, 97, 108]) = false := by simpa using h0
    have e1 : (nm.toList == [112, 121, 116, 104, 97, 103, 111, 114, 101, 97, 110]) = false := by simpa using h1
    have e2 : (nm.toList == [109, 101, 97, 110, 116, 111, 110, 101]) = false := by simpa using h2
    clear h0
    clear h1
    clear h2
    go_enter Tryd.func15, Tryd.ntmps15
    go_wp2_with ((with_reducible show wpList _ _ _ _ _ _); first
      | (refine wpList_alloc_new 2 rfl rfl 26 rfl TV0.cells alloc_temper ?_; rintro w42 gR zg zm zs zb; have ORD : Sl (w.heap.size ≤ gR) := ⟨by have := HB.out.size; omega⟩; replace HB : Sl (Below w.heap.size w w42) := ⟨below_mv HB.out zm (by have := HB.out.size; have := ORD.out; omega) HB.out.size⟩; have XR : Sl (Blk w42 gR 26 TV0.cells) := ⟨zb⟩; clear zg zm zs zb))
    have hbx : Below w42.heap.size w42 (w42.alloc (.cells (ints [0, 1, 2, 5]).toArray 3)) := (Below.refl _ _).alloc (Nat.le_refl _) _
    have HXB : Sl (Blk (w42.alloc (.cells (ints [0, 1, 2, 5]).toArray 3)) w42.heap.size 3 (ints [0, 1, 2, 5]).toArray) := ⟨Blk.new _ _ _⟩
    replace HB : Sl (Below w.heap.size w (w42.alloc (.cells (ints [0, 1, 2, 5]).toArray 3))) := ⟨HB.out.trans (hbx.mono HB.out.size)⟩
    replace XR : Sl (Blk (w42.alloc (.cells (ints [0, 1, 2, 5]).toArray 3)) gR 26 TV0.cells) := ⟨XR.out.below hbx XR.out.lt⟩
    clear hbx
    refine (tempered_any nm false 11 4 [0, 1, 2, 5] _ (w42.alloc (.cells (ints [0, 1, 2, 5]).toArray 3)) (contains_blk HXB.out 4 rfl (by decide))).mono ?_; rintro e w44 ⟨rfl, hb⟩
    replace HB : Sl (Below w.heap.size w w44) := ⟨HB.out.trans (hb.mono HB.out.size)⟩
    replace XR : Sl (Blk w44 gR 26 TV0.cells) := ⟨XR.out.below hb XR.out.lt⟩
    clear hb
    go_wp2_with ((with_reducible show wpList _ _ _ _ _ _); first
      | (refine wpList_store_whole rfl 26 (.tmp 2) (.tmp 30) rfl gR (TV.mk5 nm false 11 4 [0, 1, 2, 5] 12).cells rfl rfl 26 TV0.cells XR.out rfl (size_temper _) (TV.cells_one _) ?_; rintro w45 zm zs zb; replace HB : Sl (Below w.heap.size w w45) := ⟨below_mv HB.out zm (by have := HB.out.size; have := ORD.out; omega) HB.out.size⟩; replace XR : Sl (Blk w45 gR 26 (TV.mk5 nm false 11 4 [0, 1, 2, 5] 12).cells) := ⟨zb⟩; clear zm zs zb))
    refine bodyPost_ret (results_rowR rfl _ _ gR _ _ _ rfl XR.out Tryd.underlying26 rfl (size_temper _)) rfl ?_
    exact ⟨by rw [HV.out]; rfl, HB.out⟩
  by_cases h4 : (nm.toList == [107, 105, 114, 110, 98, 101, 114, 103, 101, 114]) = true
  · have HV : Sl (sr = (TV.mk5 nm true 6 4 [0, 1, 2, 3] 12, 0)) := ⟨by rw [← HSR.out]; unfold stdT; rw [if_neg h0, if_neg h1, if_neg h2, if_neg h3, if_pos h4]⟩
    have e0 : (nm.toList == [101, 113, 117, 97, 108]) = false := by simpa using h0
    have e1 : (nm.toList == [112, 121, 116, 104, 97, 103, 111, 114, 101, 97, 110]) = false := by simpa using h1
    have e2 : (nm.toList == [109, 101, 97, 110, 116, 111, 110, 101]) = false := by simpa using h2
    have e3 : (nm.toList == [119, 101, 114, 99, 107, 109, 101, 105, 115, 116, 101, 114]) = false := by simpa using h3
    clear h0
    clear h1
    clear h2
    clear h3
    go_enter Tryd.func15, Tryd.ntmps15
    go_wp2_with ((with_reducible show wpList _ _ _ _ _ _); first
      | (refine wpList_alloc_new 2 rfl rfl 26 rfl TV0.cells alloc_temper ?_; rintro w56 gR zg zm zs zb; have ORD : Sl (w.heap.size ≤ gR) := ⟨by have := HB.out.size; omega⟩; replace HB : Sl (Below w.heap.size w w56) := ⟨below_mv HB.out zm (by have := HB.out.size; have := ORD.out; omega) HB.out.size⟩; have XR : Sl (Blk w56 gR 26 TV0.cells) := ⟨zb⟩; clear zg zm zs zb))
    have hbx : Below w56.heap.size w56 (w56.alloc (.cells (ints [0, 1, 2, 3]).toArray 3)) := (Below.refl _ _).alloc (Nat.le_refl _) _
    have HXB : Sl (Blk (w56.alloc (.cells (ints [0, 1, 2, 3]).toArray 3)) w56.heap.size 3 (ints [0, 1, 2, 3]).toArray) := ⟨Blk.new _ _ _⟩
    replace HB : Sl (Below w.heap.size w (w56.alloc (.cells (ints [0, 1, 2, 3]).toArray 3))) := ⟨HB.out.trans (hbx.mono HB.out.size)⟩
    replace XR : Sl (Blk (w56.alloc (.cells (ints [0, 1, 2, 3]).toArray 3)) gR 26 TV0.cells) := ⟨XR.out.below hbx XR.out.lt⟩
    clear hbx
    refine (tempered_any nm true 6 4 [0, 1, 2, 3] _ (w56.alloc (.cells (ints [0, 1, 2, 3]).toArray 3)) (contains_blk HXB.out 4 rfl (by decide))).mono ?_; rintro e w58 ⟨rfl, hb⟩
    replace HB : Sl (Below w.heap.size w w58) := ⟨HB.out.trans (hb.mono HB.out.size)⟩
    replace XR : Sl (Blk w58 gR 26 TV0.cells) := ⟨XR.out.below hb XR.out.lt⟩
    clear hb
    go_wp2_with ((with_reducible show wpList _ _ _ _ _ _); first
      | (refine wpList_store_whole rfl 26 (.tmp 2) (.tmp 37) rfl gR (TV.mk5 nm true 6 4 [0, 1, 2, 3] 12).cells rfl rfl 26 TV0.cells XR.out rfl (size_temper _) (TV.cells_one _) ?_; rintro w59 zm zs zb; replace HB : Sl (Below w.heap.size w w59) := ⟨below_mv HB.out zm (by have := HB.out.size; have := ORD.out; omega) HB.out.size⟩; replace XR : Sl (Blk w59 gR 26 (TV.mk5 nm true 6 4 [0, 1, 2, 3] 12).cells) := ⟨zb⟩; clear zm zs zb))
    refine bodyPost_ret (results_rowR rfl _ _ gR _ _ _ rfl XR.out Tryd.underlying26 rfl (size_temper _)) rfl ?_
    exact ⟨by rw [HV.out]; rfl, HB.out⟩
  by_cases h5 : (nm.toList == [118, 97, 108, 108, 111, 116, 116, 105]) = true
  · have HV : Sl (sr = (TV.mk5 nm false 6 6 [0, 1, 2, 3, 4, 11] 12, 0)) := ⟨by rw [← HSR.out]; unfold stdT; rw [if_neg h0, if_neg h1, if_neg h2, if_neg h3, if_neg h4, if_pos h5]⟩
    have e0 : (nm.toList == [101, 113, 117, 97, 108]) = false := by simpa using h0
    have e1 : (nm.toList == [112, 121, 116, 104, 97, 103, 111, 114, 101, 97, 110]) = false := by simpa using h1
    have e2 : (nm.toList == [109, 101, 97, 110, 116, 111, 110, 101]) = false := by simpa using h2
    have e3 : (nm.toList == [119, 101, 114, 99, 107, 109, 101, 105, 115, 116, 101, 114]) = false := by simpa using h3
    have e4 : (nm.toList == [107, 105, 114, 110, 98, 101, 114, 103, 101, 114]) = false := by simpa using h4
    clear h0
    clear h1
    clear h2
    clear h3
    clear h4
    go_enter Tryd.func15, Tryd.ntmps15
    go_wp2_with ((with_reducible show wpList _ _ _ _ _ _); first
      | (refine wpList_alloc_new 2 rfl rfl 26 rfl TV0.cells alloc_temper ?_; rintro w70 gR zg zm zs zb; have ORD : Sl (w.heap.size ≤ gR) := ⟨by have := HB.out.size; omega⟩; replace HB : Sl (Below w.heap.size w w70) := ⟨below_mv HB.out zm (by have := HB.out.size; have := ORD.out; omega) HB.out.size⟩; have XR : Sl (Blk w70 gR 26 TV0.cells) := ⟨zb⟩; clear zg zm zs zb))
    have hbx : Below w70.heap.size w70 (w70.alloc (.cells (ints [0, 1, 2, 3, 4, 11]).toArray 3)) := (Below.refl _ _).alloc (Nat.le_refl _) _
    have HXB : Sl (Blk (w70.alloc (.cells (ints [0, 1, 2, 3, 4, 11]).toArray 3)) w70.heap.size 3 (ints [0, 1, 2, 3, 4, 11]).toArray) := ⟨Blk.new _ _ _⟩
    replace HB : Sl (Below w.heap.size w (w70.alloc (.cells (ints [0, 1, 2, 3, 4, 11]).toArray 3))) := ⟨HB.out.trans (hbx.mono HB.out.size)⟩
    replace XR : Sl (Blk (w70.alloc (.cells (ints [0, 1, 2, 3, 4, 11]).toArray 3)) gR 26 TV0.cells) := ⟨XR.out.below hbx XR.out.lt⟩
    clear hbx
    refine (tempered_any nm false 6 6 [0, 1, 2, 3, 4, 11] _ (w70.alloc (.cells (ints [0, 1, 2, 3, 4, 11]).toArray 3)) (contains_blk HXB.out 6 rfl (by decide))).mono ?_; rintro e w72 ⟨rfl, hb⟩
    replace HB : Sl (Below w.heap.size w w72) := ⟨HB.out.trans (hb.mono HB.out.size)⟩
    replace XR : Sl (Blk w72 gR 26 TV0.cells) := ⟨XR.out.below hb XR.out.lt⟩
    clear hb
    go_wp2_with ((with_reducible show wpList _ _ _ _ _ _); first
      | (refine wpList_store_whole rfl 26 (.tmp 2) (.tmp 44) rfl gR (TV.mk5 nm false 6 6 [0, 1, 2, 3, 4, 11] 12).cells rfl rfl 26 TV0.cells XR.out rfl (size_temper _) (TV.cells_one _) ?_; rintro w73 zm zs zb; replace HB : Sl (Below w.heap.size w w73) := ⟨below_mv HB.out zm (by have := HB.out.size; have := ORD.out; omega) HB.out.size⟩; replace XR : Sl (Blk w73 gR 26 (TV.mk5 nm false 6 6 [0, 1, 2, 3, 4, 11] 12).cells) := ⟨zb⟩; clear zm zs zb))
    refine bodyPost_ret (results_rowR rfl _ _ gR _ _ _ rfl XR.out Tryd.underlying26 rfl (size_temper _)) rfl ?_
    exact ⟨by rw [HV.out]; rfl, HB.out⟩
  by_cases h6 : (nm.toList == [121, 111, 117, 110, 103]) = true
  · have HV : Sl (sr = (TV.mk5 nm false 11 6 [0, 1, 2, 3, 4, 5] 12, 0)) := ⟨by rw [← HSR.out]; unfold stdT; rw [if_neg h0, if_neg h1, if_neg h2, if_neg h3, if_neg h4, if_neg h5, if_pos h6]⟩
    have e0 : (nm.toList == [101, 113, 117, 97, 108]) = false := by simpa using h0
    have e1 : (nm.toList == [112, 121, 116, 104, 97, 103, 111, 114, 101, 97, 110]) = false := by simpa using h1
    have e2 : (nm.toList == [109, 101, 97, 110, 116, 111, 110, 101]) = false := by simpa using h2
    have e3 : (nm.toList == [119, 101, 114, 99, 107, 109, 101, 105, 115, 116, 101, 114]) = false := by simpa using h3
    have e4 : (nm.toList == [107, 105, 114, 110, 98, 101, 114, 103, 101, 114]) = false := by simpa using h4
    have e5 : (nm.toList == [118, 97, 108, 108, 111, 116, 116, 105]) = false := by simpa using h5
    clear h0
    clear h1
    clear h2
    clear h3
    clear h4
    clear h5
    go_enter Tryd.func15, Tryd.ntmps15
    go_wp2_with ((with_reducible show wpList _ _ _ _ _ _); first
      | (refine wpList_alloc_new 2 rfl rfl 26 rfl TV0.cells alloc_temper ?_; rintro w84 gR zg zm zs zb; have ORD : Sl (w.heap.size ≤ gR) := ⟨by have := HB.out.size; omega⟩; replace HB : Sl (Below w.heap.size w w84) := ⟨below_mv HB.out zm (by have := HB.out.size; have := ORD.out; omega) HB.out.size⟩; have XR : Sl (Blk w84 gR 26 TV0.cells) := ⟨zb⟩; clear zg zm zs zb))
    have hbx : Below w84.heap.size w84 (w84.alloc (.cells (ints [0, 1, 2, 3, 4, 5]).toArray 3)) := (Below.refl _ _).alloc (Nat.le_refl _) _
    have HXB : Sl (Blk (w84.alloc (.cells (ints [0, 1, 2, 3, 4, 5]).toArray 3)) w84.heap.size 3 (ints [0, 1, 2, 3, 4, 5]).toArray) := ⟨Blk.new _ _ _⟩
    replace HB : Sl (Below w.heap.size w (w84.alloc (.cells (ints [0, 1, 2, 3, 4, 5]).toArray 3))) := ⟨HB.out.trans (hbx.mono HB.out.size)⟩
    replace XR : Sl (Blk (w84.alloc (.cells (ints [0, 1, 2, 3, 4, 5]).toArray 3)) gR 26 TV0.cells) := ⟨XR.out.below hbx XR.out.lt⟩
    clear hbx
    refine (tempered_any nm false 11 6 [0, 1, 2, 3, 4, 5] _ (w84.alloc (.cells (ints [0, 1, 2, 3, 4, 5]).toArray 3)) (contains_blk HXB.out 6 rfl (by decide))).mono ?_; rintro e w86 ⟨rfl, hb⟩
    replace HB : Sl (Below w.heap.size w w86) := ⟨HB.out.trans (hb.mono HB.out.size)⟩
    replace XR : Sl (Blk w86 gR 26 TV0.cells) := ⟨XR.out.below hb XR.out.lt⟩
    clear hb
    go_wp2_with ((with_reducible show wpList _ _ _ _ _ _); first
      | (refine wpList_store_whole rfl 26 (.tmp 2) (.tmp 51) rfl gR (TV.mk5 nm false 11 6 [0, 1, 2, 3, 4, 5] 12).cells rfl rfl 26 TV0.cells XR.out rfl (size_temper _) (TV.cells_one _) ?_; rintro w87 zm zs zb; replace HB : Sl (Below w.heap.size w w87) := ⟨below_mv HB.out zm (by have := HB.out.size; have := ORD.out; omega) HB.out.size⟩; replace XR : Sl (Blk w87 gR 26 (TV.mk5 nm false 11 6 [0, 1, 2, 3, 4, 5] 12).cells) := ⟨zb⟩; clear zm zs zb))
    refine bodyPost_ret (results_rowR rfl _ _ gR _ _ _ rfl XR.out Tryd.underlying26 rfl (size_temper _)) rfl ?_
    exact ⟨by rw [HV.out]; rfl, HB.out⟩
  have HV : Sl (sr = (TV0, 4)) := ⟨by rw [← HSR.out]; unfold stdT; rw [if_neg h0, if_neg h1, if_neg h2, if_neg h3, if_neg h4, if_neg h5, if_neg h6]⟩
  have e0 : (nm.toList == [101, 113, 117, 97, 108]) = false := by simpa using h0
  have e1 : (nm.toList == [112, 121, 116, 104, 97, 103, 111, 114, 101, 97, 110]) = false := by simpa using h1
  have e2 : (nm.toList == [109, 101, 97, 110, 116, 111, 110, 101]) = false := by simpa using h2
  have e3 : (nm.toList == [119, 101, 114, 99, 107, 109, 101, 105, 115, 116, 101, 114]) = false := by simpa using h3
  have e4 : (nm.toList == [107, 105, 114, 110, 98, 101, 114, 103, 101, 114]) = false := by simpa using h4
  have e5 : (nm.toList == [118, 97, 108, 108, 111, 116, 116, 105]) = false := by simpa using h5
  have e6 : (nm.toList == [121, 111, 117, 110, 103]) = false := by simpa using h6
  clear h0
  clear h1
  clear h2
  clear h3
  clear h4
  clear h5
  clear h6
  go_enter Tryd.func15, Tryd.ntmps15
  go_wp2_with ((with_reducible show wpList _ _ _ _ _ _); first
    | (refine wpList_alloc_new 2 rfl rfl 26 rfl TV0.cells alloc_temper ?_; rintro w98 gR zg zm zs zb; have ORD : Sl (w.heap.size ≤ gR) := ⟨by have := HB.out.size; omega⟩; replace HB : Sl (Below w.heap.size w w98) := ⟨below_mv HB.out zm (by have := HB.out.size; have := ORD.out; omega) HB.out.size⟩; have XR : Sl (Blk w98 gR 26 TV0.cells) := ⟨zb⟩; clear zg zm zs zb)
    | (refine wpList_store_whole rfl 26 (.tmp 2) (.tmp 53) rfl gR TV0.cells rfl rfl 26 TV0.cells XR.out rfl (size_temper _) (TV.cells_one _) ?_; rintro w99 zm zs zb; replace HB : Sl (Below w.heap.size w w99) := ⟨below_mv HB.out zm (by have := HB.out.size; have := ORD.out; omega) HB.out.size⟩; replace XR : Sl (Blk w99 gR 26 TV0.cells) := ⟨zb⟩; clear zm zs zb))
  refine bodyPost_ret (results_rowR rfl _ _ gR _ _ _ rfl XR.out Tryd.underlying26 rfl (size_temper _)) rfl ?_
  exact ⟨by rw [HV.out]; rfl, HB.out⟩
set_option maxHeartbeats 6400000 in
set_option maxRecDepth 100000 in
theorem named_any (nm : ByteArray) (w : World) : Calls Tryd.prog 22 #[.string nm] w fun e w' => e = .returned (.agg (stdT nm).1.cells) ∧ Below w.heap.size w w' := by
  have HB : Sl (Below w.heap.size w w) := ⟨Below.refl _ _⟩
  have HS : Sl _ := ⟨fun W : World => Standard_any nm W⟩
  obtain ⟨⟨tt, er⟩, ht⟩ : ∃ x, stdT nm = x := ⟨_, rfl⟩
  rw [ht] at HS ⊢
  clear ht
  go_enter Tryd.func22, Tryd.ntmps22
  go_wp2_with ((with_reducible show wpList _ _ _ _ _ _); first
    | (refine wpList_alloc_new 2 rfl rfl 26 rfl TV0.cells alloc_temper ?_; rintro w1 gR zg zm zs zb; have ORD : Sl (w.heap.size ≤ gR) := ⟨by have := HB.out.size; omega⟩; replace HB : Sl (Below w.heap.size w w1) := ⟨below_mv HB.out zm (by have := HB.out.size; have := ORD.out; omega) HB.out.size⟩; have XR : Sl (Blk w1 gR 26 TV0.cells) := ⟨zb⟩; clear zg zm zs zb))
  refine (HS.out _).mono ?_; rintro e w2 ⟨rfl, hb⟩
  replace HB : Sl (Below w.heap.size w w2) := ⟨HB.out.trans (hb.mono HB.out.size)⟩
  replace XR : Sl (Blk w2 gR 26 TV0.cells) := ⟨XR.out.below hb XR.out.lt⟩
  clear hb
  go_wp2_with ((with_reducible show wpList _ _ _ _ _ _); first
    | (refine wpList_alloc_new 3 rfl rfl 26 rfl TV0.cells alloc_temper ?_; rintro w3 gU zg zm zs zb; replace ORD : Sl (w.heap.size ≤ gR ∧ gR < gU) := ⟨by have := HB.out.size; have := ORD.out; have := XR.out.lt; omega⟩; replace HB : Sl (Below w.heap.size w w3) := ⟨below_mv HB.out zm (by have := HB.out.size; have := ORD.out; omega) HB.out.size⟩; replace XR : Sl (Blk w3 gR 26 TV0.cells) := ⟨XR.out.mv zm (by have := XR.out.lt; have := ORD.out; omega)⟩; have XU : Sl (Blk w3 gU 26 TV0.cells) := ⟨zb⟩; clear zg zm zs zb)
    | (refine wpList_store_whole rfl 26 (.tmp 3) (.tmp 8) rfl gU tt.cells rfl rfl 26 TV0.cells XU.out rfl (size_temper _) (TV.cells_one _) ?_; rintro w4 zm zs zb; replace HB : Sl (Below w.heap.size w w4) := ⟨below_mv HB.out zm (by have := HB.out.size; have := ORD.out; omega) HB.out.size⟩; replace XR : Sl (Blk w4 gR 26 TV0.cells) := ⟨XR.out.mv zm (by have := XR.out.lt; have := ORD.out; omega)⟩; replace XU : Sl (Blk w4 gU 26 tt.cells) := ⟨zb⟩; clear zm zs zb)
    | (refine wpList_load_whole rfl 26 (.tmp 3) rfl gU rfl 26 tt.cells _ XU.out Tryd.underlying26 rfl (size_temper _) ?_)
    | (refine wpList_store_whole rfl 26 (.tmp 2) (.tmp 10) rfl gR tt.cells rfl rfl 26 TV0.cells XR.out rfl (size_temper _) (TV.cells_one _) ?_; rintro w5 zm zs zb; replace HB : Sl (Below w.heap.size w w5) := ⟨below_mv HB.out zm (by have := HB.out.size; have := ORD.out; omega) HB.out.size⟩; replace XU : Sl (Blk w5 gU 26 tt.cells) := ⟨XU.out.mv zm (by have := XU.out.lt; have := ORD.out; omega)⟩; replace XR : Sl (Blk w5 gR 26 tt.cells) := ⟨zb⟩; clear zm zs zb))
  refine bodyPost_ret (results_cell_row rfl _ _ gR _ _ _ _ rfl XR.out Tryd.underlying26 rfl (size_temper _)) rfl ?_
  exact ⟨rfl, HB.out⟩
end Go.Proofs.YtmcoadmnkelkkaaDoor
namespace Go.Proofs.YtmcoadmnkelkkaaDoor
set_option linter.unusedSimpArgs false
open Go.RowKit
set_option linter.unusedVariables false

theorem ce_ex {u : Nat → Int} {D : Int} (hu : fitsV u D) (h1 : TT (-D) u) (h2 : SS D u) {w : World} (hT : PrT w) : ∃ b, Ce (nr u D) (cmN u D) b := by
  obtain ⟨e, w1, _, ⟨hc, _⟩, _⟩ := Cents_any (nr u D) w hT []
  obtain ⟨⟨b, _, h⟩, _⟩ := cents_tame hu h1 h2 hc
  exact ⟨b, h⟩
theorem std_mt : (stdT ⟨#[109, 101, 97, 110, 116, 111, 110, 101]⟩).1.cells = mtT.cells := by
  have e : stdT ⟨#[109, 101, 97, 110, 116, 111, 110, 101]⟩ = (TV.mk5 ⟨#[109, 101, 97, 110, 116, 111, 110, 101]⟩ true 8 4 [0, 1, 2, 3, 4, 5, 6, 7, 9, 10, 11] 12, 0) := by
    unfold stdT
    rw [if_neg (by decide +kernel), if_neg (by decide +kernel), if_pos (by decide +kernel)]
  rw [e]
  refine TV.cells_ext (by decide +kernel) rfl rfl (fun i hi => ?_) (fun i hi => ?_)
  · have h : ∀ i, i < 12 → (TV.mk5 ⟨#[109, 101, 97, 110, 116, 111, 110, 101]⟩ true 8 4 [0, 1, 2, 3, 4, 5, 6, 7, 9, 10, 11] 12).num i = mtT.num i := by decide +kernel
    exact h i hi
  · have h : ∀ i, i < 12 → (TV.mk5 ⟨#[109, 101, 97, 110, 116, 111, 110, 101]⟩ true 8 4 [0, 1, 2, 3, 4, 5, 6, 7, 9, 10, 11] 12).den i = mtT.den i := by decide +kernel
    exact h i hi
theorem mtT_nm : mtT.nm.size ≤ maxLen := by
  have : mtT.nm.size = 8 := by decide +kernel
  rw [this]; decide
theorem mt_note {k a b c : Nat} (hk : k ≤ 12) {w : World} (hT : PrT w) : ∃ b, Ce (nr (mt.n k) mt.D) (cmN (mt.n k) mt.D) b := by
  obtain ⟨h1, h2⟩ := mt_ok.n_range hk
  exact ce_ex (mt_ok.n_fits hk) (h1.mono (by decide)) h2 hT
theorem mt_v4 {w : World} (hT : PrT w) : (mtT.cl 12)[4]? = some 386313 := by
  have hT0 := hT
  obtain ⟨b, h⟩ := mt_note (k := 4) (a := 0) (b := 0) (c := 0) (by decide) hT
  have := mt_c4 mt_n4 h
  unfold TV.cl
  rw [mtT_tp]
  simp
  exact this
theorem mt_v7 {w : World} (hT : PrT w) : (mtT.cl 12)[7]? = some 696578 := by
  obtain ⟨b, h⟩ := mt_note (k := 1) (a := 0) (b := 0) (c := 0) (by decide) hT
  have := mt_c1 mt_n1 h
  unfold TV.cl
  rw [mtT_tp]
  simp
  exact this
theorem mt_ex {p : Nat → Int} (hp : Pure p) {a b : Nat} (ha : a ≤ 12) (hb : b ≤ 12) {w : World} (hT : PrT w) : ∃ z, Ce (nr (mt.x p a b) mt.D) (cmN (mt.x p a b) mt.D) z := by
  obtain ⟨h1, h2⟩ := mt_ok.x_rng hp ha hb
  exact ce_ex (mt_ok.x_fits hp ha hb) h1 h2 hT
theorem mt_tri {w : World} (hT : PrT w) : mtT.tri 8 = (41058, 35682, 0) := by
  have e1 : mtT.xc b54 8 12 = 41058 := by
    unfold TV.xc TV.X
    rw [mtT_tp]
    obtain ⟨z, h⟩ := mt_ex pure54 (a := 8) (b := 0) (by decide) (by decide) hT
    refine mt_third (fun j hj => ?_) h
    unfold TP.x TP.b
    rw [mt_b80 j hj]
    revert j
    decide
  have e2 : mtT.xc b32 8 15 = 35682 := by
    unfold TV.xc TV.X
    rw [mtT_tp]
    obtain ⟨z, h⟩ := mt_ex pure32 (a := 8) (b := 9) (by decide) (by decide) hT
    refine mt_fifth (fun j hj => ?_) h
    unfold TP.x TP.b
    rw [mt_b89 j hj]
    revert j
    decide
  unfold TV.tri
  rw [if_pos mtT_chk, if_pos (by decide)]
  show (mtT.xc b54 8 12, mtT.xc b32 8 15, (0 : Int)) = _
  rw [e1, e2]
set_option maxHeartbeats 6400000 in
set_option maxRecDepth 100000 in
theorem awake5_any (w : World) (hT : PrT w) : Calls Tryd.prog 9 #[] w fun e w' => e = .returned (.bool true) ∧ Below w.heap.size w w' := by
  have HB : Sl (Below w.heap.size w w) := ⟨Below.refl _ _⟩
  have HT : Sl _ := ⟨hT⟩
  have HNA : Sl (∀ W : World, Calls Tryd.prog 22 #[.string ⟨#[109, 101, 97, 110, 116, 111, 110, 101]⟩] W fun e w' => e = .returned (.agg mtT.cells) ∧ Below W.heap.size W w') := ⟨fun W => by
    have := named_any ⟨#[109, 101, 97, 110, 116, 111, 110, 101]⟩ W
    rw [std_mt] at this
    exact this⟩
  have HCE : Sl (∀ W : World, PrT W → Calls Tryd.prog 21 #[.agg mtT.cells] W fun e w' => (∃ g c, e = .returned (.tuple #[.slice (some ⟨g, 0, none⟩) 12 c, .int .i64 0]) ∧ g < w'.heap.size ∧ w'.cell? ⟨g, 4, none⟩ = some (.int .i64 386313) ∧ w'.cell? ⟨g, 7, none⟩ = some (.int .i64 696578)) ∧ Below W.heap.size W w') := ⟨fun W h => (tCents_any mtT mtT_nm W h).mono fun e w' ⟨hc, hb⟩ => by
    obtain ⟨v, rfl, ho⟩ := hc.2 mtT_chk
    obtain ⟨g, c, rfl, _, hlt⟩ := ho.form (by decide)
    have h4 := World.ownsRow.cellAt ho 4 (by decide)
    have h7 := World.ownsRow.cellAt ho 7 (by decide)
    unfold ints at h4 h7
    rw [List.getElem?_map, mt_v4 h] at h4
    rw [List.getElem?_map, mt_v7 h] at h7
    exact ⟨⟨g, c, rfl, hlt, h4, h7⟩, hb⟩⟩
  have HTR : Sl (∀ W : World, PrT W → Calls Tryd.prog 23 #[.agg mtT.cells, .int .i64 8] W fun e w' => e = .returned (.tuple #[.int .i64 41058, .int .i64 35682, .int .i64 0]) ∧ Below W.heap.size W w') := ⟨fun W h => by
    have := ttriad_any mtT mtT_nm 8 W h
    rw [mt_tri h] at this
    exact this⟩
  clear hT
  go_enter Tryd.func9, Tryd.ntmps9
  go_wp2_with fail
  refine (HNA.out _).mono ?_; rintro e w1 ⟨rfl, hb⟩
  replace HB : Sl (Below w.heap.size w w1) := ⟨HB.out.trans (hb.mono HB.out.size)⟩
  clear hb
  go_wp2_with fail
  refine (HCE.out _ (HT.out.below HB.out)).mono ?_; rintro e w2 ⟨⟨g, cp, rfl, hlt, h4, h7⟩, hb⟩
  replace HB : Sl (Below w.heap.size w w2) := ⟨HB.out.trans (hb.mono HB.out.size)⟩
  have HG : Sl _ := ⟨And.intro hlt (And.intro h4 h7)⟩
  clear hb hlt h4 h7
  go_wp2_with fail
  refine (HNA.out _).mono ?_; rintro e w3 ⟨rfl, hb⟩
  replace HG : Sl (g < w3.heap.size ∧ w3.cell? ⟨g, 4, none⟩ = some (.int .i64 386313) ∧ w3.cell? ⟨g, 7, none⟩ = some (.int .i64 696578)) := ⟨Nat.lt_of_lt_of_le HG.out.1 hb.size, (hb.cell (p := ⟨g, 4, none⟩) HG.out.1).trans HG.out.2.1, (hb.cell (p := ⟨g, 7, none⟩) HG.out.1).trans HG.out.2.2⟩
  replace HB : Sl (Below w.heap.size w w3) := ⟨HB.out.trans (hb.mono HB.out.size)⟩
  clear hb
  go_wp2_with fail
  refine (HTR.out _ (HT.out.below HB.out)).mono ?_; rintro e w4 ⟨rfl, hb⟩
  have k4 : w4.cell? ⟨g, 4, none⟩ = some (.int .i64 386313) := (hb.cell (p := ⟨g, 4, none⟩) HG.out.1).trans HG.out.2.1
  have k7 : w4.cell? ⟨g, 7, none⟩ = some (.int .i64 696578) := (hb.cell (p := ⟨g, 7, none⟩) HG.out.1).trans HG.out.2.2
  replace HB : Sl (Below w.heap.size w w4) := ⟨HB.out.trans (hb.mono HB.out.size)⟩
  clear hb
  go_wp2_with fail
  go_ret
  exact ⟨rfl, HB.out⟩
end Go.Proofs.YtmcoadmnkelkkaaDoor
