/- Package temper: Standard; the law's named. (Printed by gentemx.py.) The law's awake of chapter 05. (Printed by gentemy.py.) -/
import Derived.Test.YtmcoadmnkelkkaaGreatDoorZknAd
import Derived.Test.YtmcoadmnkelkkaaGreatDoorShelf
import Derived.Test.YtmcoadmnkelkkaaGreatDoorRatJ
import Derived.BigRegion
import Derived.Test.YtmcoadmnkelkkaaGreatDoorShelB
import Derived.Laws.MakeOwn
import Derived.Laws.OwnMore
import Derived.Laws.IdiomCopy
import Derived.Lib.AppendIntMem
namespace Go.Proofs.YtmcoadmnkelkkaaGreatDoor
set_option linter.unusedSimpArgs false
open Go.RowKit
set_option linter.unusedVariables false
def stdT (nm : ByteArray) : TV × Int :=
  if (nm.toList == [101, 113, 117, 97, 108]) = true then (TV.mk5 nm false 11 12 [0, 1, 2, 3, 4, 5, 6, 7, 8, 9, 10] 12, 0) else
  if (nm.toList == [112, 121, 116, 104, 97, 103, 111, 114, 101, 97, 110]) = true then (TV.mk5 nm false 8 1 [] 12, 0) else
  if (nm.toList == [109, 101, 97, 110, 116, 111, 110, 101]) = true then (TV.mk5 nm true 8 4 [0, 1, 2, 3, 4, 5, 6, 7, 9, 10, 11] 12, 0) else
  if (nm.toList == [119, 101, 114, 99, 107, 109, 101, 105, 115, 116, 101, 114]) = true then (TV.mk5 nm false 11 4 [0, 1, 2, 5] 12, 0) else
  if (nm.toList == [107, 105, 114, 110, 98, 101, 114, 103, 101, 114]) = true then (TV.mk5 nm true 6 4 [0, 1, 2, 3] 12, 0) else
  if (nm.toList == [118, 97, 108, 108, 111, 116, 116, 105]) = true then (TV.mk5 nm false 6 6 [0, 1, 2, 3, 4, 11] 12, 0) else
  if (nm.toList == [121, 111, 117, 110, 103]) = true then (TV.mk5 nm false 11 6 [0, 1, 2, 3, 4, 5] 12, 0) else
  (TV0, 4)
theorem contains_blk {w : World} {g : Nat} {t : TypeId} {L : List Int} (hB : Blk w g t (ints L).toArray) (n : Nat) (hn : L.length = n) (hm : n ≤ 1000) : Sl (∀ (W : World) (x : Int), Below w.heap.size w W → Calls Tryz.prog 126 #[.slice (some ⟨g, 0, none⟩) n n, .int .i64 x] W fun e w' => e = .returned (.bool (L.contains x)) ∧ w' = W) := ⟨fun W x h => by
  have X := hB.below h hB.lt; have key := Tryz.slices_Contains_int g 0 n n L x W (by omega); rw [← hn, List.take_length] at key
  have := key (by omega) (fun j hj => by
    rw [Nat.zero_add, X.cell]; unfold ints
    simp [hj])
  rw [hn] at this
  exact this⟩
theorem contains_none {w : World} : Sl (∀ (W : World) (x : Int), Below w.heap.size w W → Calls Tryz.prog 126 #[.slice none 0 0, .int .i64 x] W fun e w' => e = .returned (.bool (([] : List Int).contains x)) ∧ w' = W) := ⟨fun W x h => Tryz.slices_Contains_int_empty none 0 x W⟩
attribute [-simp] Tryz.isAgg26
set_option maxHeartbeats 6400000 in
set_option maxRecDepth 100000 in
theorem Standard_mt (nm : ByteArray) (h2 : (nm.toList == [109, 101, 97, 110, 116, 111, 110, 101]) = true) (w : World) : Calls Tryz.prog 66 #[.string nm] w fun e w' => e = .returned (.tuple #[.agg (stdT nm).1.cells, .int .i64 (stdT nm).2]) ∧ Below w.heap.size w w' := by
  have HB : Sl (Below w.heap.size w w) := ⟨Below.refl _ _⟩; obtain ⟨sr, hsr⟩ : ∃ x, stdT nm = x := ⟨_, rfl⟩; rw [hsr]; have HSR : Sl _ := ⟨hsr⟩; clear hsr; have h0 : ¬ (nm.toList == [101, 113, 117, 97, 108]) = true := (by rw [eq_of_beq h2]; decide); have h1 : ¬ (nm.toList == [112, 121, 116, 104, 97, 103, 111, 114, 101, 97, 110]) = true := (by rw [eq_of_beq h2]; decide); have HV : Sl (sr = (TV.mk5 nm true 8 4 [0, 1, 2, 3, 4, 5, 6, 7, 9, 10, 11] 12, 0)) := ⟨by rw [← HSR.out]; unfold stdT; rw [if_neg h0, if_neg h1, if_pos h2]⟩; have e0 : (nm.toList == [101, 113, 117, 97, 108]) = false := (by simpa using h0); have e1 : (nm.toList == [112, 121, 116, 104, 97, 103, 111, 114, 101, 97, 110]) = false := (by simpa using h1); clear h0; clear h1; go_enter Tryz.func66, Tryz.ntmps66
  go_wp2_with ((with_reducible show wpList _ _ _ _ _ _); first
    | (refine wpList_alloc_new 2 rfl rfl 26 rfl TV0.cells alloc_temper ?_; rintro w28 gR zg zm zs zb; have ORD : Sl (w.heap.size ≤ gR) := ⟨by have := HB.out.size; omega⟩; replace HB := HB.v zm (by have := HB.out.size; have := ORD.out; omega); have XR : Sl (Blk w28 gR 26 TV0.cells) := ⟨zb⟩; clear zg zm zs zb))
  have hbx : Below w28.heap.size w28 (w28.alloc (.cells (ints [0, 1, 2, 3, 4, 5, 6, 7, 9, 10, 11]).toArray 3)) := (Below.refl _ _).alloc (Nat.le_refl _) _; have HXB : Sl (Blk (w28.alloc (.cells (ints [0, 1, 2, 3, 4, 5, 6, 7, 9, 10, 11]).toArray 3)) w28.heap.size 3 (ints [0, 1, 2, 3, 4, 5, 6, 7, 9, 10, 11]).toArray) := ⟨Blk.new _ _ _⟩; replace HB : Sl (Below w.heap.size w (w28.alloc (.cells (ints [0, 1, 2, 3, 4, 5, 6, 7, 9, 10, 11]).toArray 3))) := ⟨HB.out.trans (hbx.mono HB.out.size)⟩; replace XR : Sl (Blk (w28.alloc (.cells (ints [0, 1, 2, 3, 4, 5, 6, 7, 9, 10, 11]).toArray 3)) gR 26 TV0.cells) := ⟨XR.out.below hbx XR.out.lt⟩; clear hbx; refine (tempered_any nm true 8 4 [0, 1, 2, 3, 4, 5, 6, 7, 9, 10, 11] _ (w28.alloc (.cells (ints [0, 1, 2, 3, 4, 5, 6, 7, 9, 10, 11]).toArray 3)) (contains_blk HXB.out 11 rfl (by decide))).mono ?_; rintro e w30 ⟨rfl, hb⟩; replace HB := HB.y hb; replace XR := XR.x hb; clear hb
  go_wp2_with ((with_reducible show wpList _ _ _ _ _ _); first
    | (refine wpList_store_whole rfl 26 (.tmp 2) (.tmp 23) rfl gR (TV.mk5 nm true 8 4 [0, 1, 2, 3, 4, 5, 6, 7, 9, 10, 11] 12).cells rfl rfl 26 TV0.cells XR.out rfl (size_temper _) (TV.cells_one _) ?_; rintro w31 zm zs zb; replace HB := HB.v zm (by have := ORD.out; omega); replace XR : Sl (Blk w31 gR 26 (TV.mk5 nm true 8 4 [0, 1, 2, 3, 4, 5, 6, 7, 9, 10, 11] 12).cells) := ⟨zb⟩; clear zm zs zb))
  refine bodyPost_ret (results_rowR rfl _ _ gR _ _ _ rfl XR.out Tryz.underlying26 rfl (size_temper _)) rfl ?_; exact ⟨by rw [HV.out]; rfl, HB.out⟩
set_option maxHeartbeats 6400000 in
set_option maxRecDepth 100000 in
theorem Standard_any (nm : ByteArray) (w : World) : Calls Tryz.prog 66 #[.string nm] w fun e w' => e = .returned (.tuple #[.agg (stdT nm).1.cells, .int .i64 (stdT nm).2]) ∧ Below w.heap.size w w' := by
  have HB : Sl (Below w.heap.size w w) := ⟨Below.refl _ _⟩; obtain ⟨sr, hsr⟩ : ∃ x, stdT nm = x := ⟨_, rfl⟩; rw [hsr]; have HSR : Sl _ := ⟨hsr⟩; clear hsr
  by_cases h0 : (nm.toList == [101, 113, 117, 97, 108]) = true
  · have HV : Sl (sr = (TV.mk5 nm false 11 12 [0, 1, 2, 3, 4, 5, 6, 7, 8, 9, 10] 12, 0)) := ⟨by rw [← HSR.out]; unfold stdT; rw [if_pos h0]⟩; go_enter Tryz.func66, Tryz.ntmps66
    go_wp2_with ((with_reducible show wpList _ _ _ _ _ _); first
      | (refine wpList_alloc_new 2 rfl rfl 26 rfl TV0.cells alloc_temper ?_; rintro w1 gR zg zm zs zb; have ORD : Sl (w.heap.size ≤ gR) := ⟨by have := HB.out.size; omega⟩; replace HB := HB.v zm (by have := HB.out.size; have := ORD.out; omega); have XR : Sl (Blk w1 gR 26 TV0.cells) := ⟨zb⟩; clear zg zm zs zb))
    have hbx : Below w1.heap.size w1 (w1.alloc (.cells (ints [0, 1, 2, 3, 4, 5, 6, 7, 8, 9, 10]).toArray 3)) := (Below.refl _ _).alloc (Nat.le_refl _) _; have HXB : Sl (Blk (w1.alloc (.cells (ints [0, 1, 2, 3, 4, 5, 6, 7, 8, 9, 10]).toArray 3)) w1.heap.size 3 (ints [0, 1, 2, 3, 4, 5, 6, 7, 8, 9, 10]).toArray) := ⟨Blk.new _ _ _⟩; replace HB : Sl (Below w.heap.size w (w1.alloc (.cells (ints [0, 1, 2, 3, 4, 5, 6, 7, 8, 9, 10]).toArray 3))) := ⟨HB.out.trans (hbx.mono HB.out.size)⟩; replace XR : Sl (Blk (w1.alloc (.cells (ints [0, 1, 2, 3, 4, 5, 6, 7, 8, 9, 10]).toArray 3)) gR 26 TV0.cells) := ⟨XR.out.below hbx XR.out.lt⟩; clear hbx; refine (tempered_any nm false 11 12 [0, 1, 2, 3, 4, 5, 6, 7, 8, 9, 10] _ (w1.alloc (.cells (ints [0, 1, 2, 3, 4, 5, 6, 7, 8, 9, 10]).toArray 3)) (contains_blk HXB.out 11 rfl (by decide))).mono ?_; rintro e w3 ⟨rfl, hb⟩; replace HB := HB.y hb; replace XR := XR.x hb; clear hb
    go_wp2_with ((with_reducible show wpList _ _ _ _ _ _); first
      | (refine wpList_store_whole rfl 26 (.tmp 2) (.tmp 10) rfl gR (TV.mk5 nm false 11 12 [0, 1, 2, 3, 4, 5, 6, 7, 8, 9, 10] 12).cells rfl rfl 26 TV0.cells XR.out rfl (size_temper _) (TV.cells_one _) ?_; rintro w4 zm zs zb; replace HB := HB.v zm (by have := ORD.out; omega); replace XR : Sl (Blk w4 gR 26 (TV.mk5 nm false 11 12 [0, 1, 2, 3, 4, 5, 6, 7, 8, 9, 10] 12).cells) := ⟨zb⟩; clear zm zs zb))
    refine bodyPost_ret (results_rowR rfl _ _ gR _ _ _ rfl XR.out Tryz.underlying26 rfl (size_temper _)) rfl ?_; exact ⟨by rw [HV.out]; rfl, HB.out⟩
  by_cases h1 : (nm.toList == [112, 121, 116, 104, 97, 103, 111, 114, 101, 97, 110]) = true
  · have HV : Sl (sr = (TV.mk5 nm false 8 1 [] 12, 0)) := ⟨by rw [← HSR.out]; unfold stdT; rw [if_neg h0, if_pos h1]⟩; have e0 : (nm.toList == [101, 113, 117, 97, 108]) = false := (by simpa using h0); clear h0; go_enter Tryz.func66, Tryz.ntmps66
    go_wp2_with ((with_reducible show wpList _ _ _ _ _ _); first
      | (refine wpList_alloc_new 2 rfl rfl 26 rfl TV0.cells alloc_temper ?_; rintro w15 gR zg zm zs zb; have ORD : Sl (w.heap.size ≤ gR) := ⟨by have := HB.out.size; omega⟩; replace HB := HB.v zm (by have := HB.out.size; have := ORD.out; omega); have XR : Sl (Blk w15 gR 26 TV0.cells) := ⟨zb⟩; clear zg zm zs zb))
    refine (tempered_any nm false 8 1 [] _ _ contains_none).mono ?_; rintro e w16 ⟨rfl, hb⟩; replace HB := HB.y hb; replace XR := XR.x hb; clear hb
    go_wp2_with ((with_reducible show wpList _ _ _ _ _ _); first
      | (refine wpList_store_whole rfl 26 (.tmp 2) (.tmp 16) rfl gR (TV.mk5 nm false 8 1 [] 12).cells rfl rfl 26 TV0.cells XR.out rfl (size_temper _) (TV.cells_one _) ?_; rintro w17 zm zs zb; replace HB := HB.v zm (by have := ORD.out; omega); replace XR : Sl (Blk w17 gR 26 (TV.mk5 nm false 8 1 [] 12).cells) := ⟨zb⟩; clear zm zs zb))
    refine bodyPost_ret (results_rowR rfl _ _ gR _ _ _ rfl XR.out Tryz.underlying26 rfl (size_temper _)) rfl ?_; exact ⟨by rw [HV.out]; rfl, HB.out⟩
  by_cases h2 : (nm.toList == [109, 101, 97, 110, 116, 111, 110, 101]) = true
  · rw [← HSR.out]; exact Standard_mt nm h2 w
  by_cases h3 : (nm.toList == [119, 101, 114, 99, 107, 109, 101, 105, 115, 116, 101, 114]) = true
  · have HV : Sl (sr = (TV.mk5 nm false 11 4 [0, 1, 2, 5] 12, 0)) := ⟨by rw [← HSR.out]; unfold stdT; rw [if_neg h0, if_neg h1, if_neg h2, if_pos h3]⟩; have e0 : (nm.toList == [101, 113, 117, 97, 108]) = false := (by simpa using h0); have e1 : (nm.toList == [112, 121, 116, 104, 97, 103, 111, 114, 101, 97, 110]) = false := (by simpa using h1); have e2 : (nm.toList == [109, 101, 97, 110, 116, 111, 110, 101]) = false := (by simpa using h2); clear h0; clear h1; clear h2; go_enter Tryz.func66, Tryz.ntmps66
    go_wp2_with ((with_reducible show wpList _ _ _ _ _ _); first
      | (refine wpList_alloc_new 2 rfl rfl 26 rfl TV0.cells alloc_temper ?_; rintro w42 gR zg zm zs zb; have ORD : Sl (w.heap.size ≤ gR) := ⟨by have := HB.out.size; omega⟩; replace HB := HB.v zm (by have := HB.out.size; have := ORD.out; omega); have XR : Sl (Blk w42 gR 26 TV0.cells) := ⟨zb⟩; clear zg zm zs zb))
    have hbx : Below w42.heap.size w42 (w42.alloc (.cells (ints [0, 1, 2, 5]).toArray 3)) := (Below.refl _ _).alloc (Nat.le_refl _) _; have HXB : Sl (Blk (w42.alloc (.cells (ints [0, 1, 2, 5]).toArray 3)) w42.heap.size 3 (ints [0, 1, 2, 5]).toArray) := ⟨Blk.new _ _ _⟩; replace HB : Sl (Below w.heap.size w (w42.alloc (.cells (ints [0, 1, 2, 5]).toArray 3))) := ⟨HB.out.trans (hbx.mono HB.out.size)⟩; replace XR : Sl (Blk (w42.alloc (.cells (ints [0, 1, 2, 5]).toArray 3)) gR 26 TV0.cells) := ⟨XR.out.below hbx XR.out.lt⟩; clear hbx; refine (tempered_any nm false 11 4 [0, 1, 2, 5] _ (w42.alloc (.cells (ints [0, 1, 2, 5]).toArray 3)) (contains_blk HXB.out 4 rfl (by decide))).mono ?_; rintro e w44 ⟨rfl, hb⟩; replace HB := HB.y hb; replace XR := XR.x hb; clear hb
    go_wp2_with ((with_reducible show wpList _ _ _ _ _ _); first
      | (refine wpList_store_whole rfl 26 (.tmp 2) (.tmp 30) rfl gR (TV.mk5 nm false 11 4 [0, 1, 2, 5] 12).cells rfl rfl 26 TV0.cells XR.out rfl (size_temper _) (TV.cells_one _) ?_; rintro w45 zm zs zb; replace HB := HB.v zm (by have := ORD.out; omega); replace XR : Sl (Blk w45 gR 26 (TV.mk5 nm false 11 4 [0, 1, 2, 5] 12).cells) := ⟨zb⟩; clear zm zs zb))
    refine bodyPost_ret (results_rowR rfl _ _ gR _ _ _ rfl XR.out Tryz.underlying26 rfl (size_temper _)) rfl ?_; exact ⟨by rw [HV.out]; rfl, HB.out⟩
  by_cases h4 : (nm.toList == [107, 105, 114, 110, 98, 101, 114, 103, 101, 114]) = true
  · have HV : Sl (sr = (TV.mk5 nm true 6 4 [0, 1, 2, 3] 12, 0)) := ⟨by rw [← HSR.out]; unfold stdT; rw [if_neg h0, if_neg h1, if_neg h2, if_neg h3, if_pos h4]⟩; have e0 : (nm.toList == [101, 113, 117, 97, 108]) = false := (by simpa using h0); have e1 : (nm.toList == [112, 121, 116, 104, 97, 103, 111, 114, 101, 97, 110]) = false := (by simpa using h1); have e2 : (nm.toList == [109, 101, 97, 110, 116, 111, 110, 101]) = false := (by simpa using h2); have e3 : (nm.toList == [119, 101, 114, 99, 107, 109, 101, 105, 115, 116, 101, 114]) = false := (by simpa using h3); clear h0; clear h1; clear h2; clear h3; go_enter Tryz.func66, Tryz.ntmps66
    go_wp2_with ((with_reducible show wpList _ _ _ _ _ _); first
      | (refine wpList_alloc_new 2 rfl rfl 26 rfl TV0.cells alloc_temper ?_; rintro w56 gR zg zm zs zb; have ORD : Sl (w.heap.size ≤ gR) := ⟨by have := HB.out.size; omega⟩; replace HB := HB.v zm (by have := HB.out.size; have := ORD.out; omega); have XR : Sl (Blk w56 gR 26 TV0.cells) := ⟨zb⟩; clear zg zm zs zb))
    have hbx : Below w56.heap.size w56 (w56.alloc (.cells (ints [0, 1, 2, 3]).toArray 3)) := (Below.refl _ _).alloc (Nat.le_refl _) _; have HXB : Sl (Blk (w56.alloc (.cells (ints [0, 1, 2, 3]).toArray 3)) w56.heap.size 3 (ints [0, 1, 2, 3]).toArray) := ⟨Blk.new _ _ _⟩; replace HB : Sl (Below w.heap.size w (w56.alloc (.cells (ints [0, 1, 2, 3]).toArray 3))) := ⟨HB.out.trans (hbx.mono HB.out.size)⟩; replace XR : Sl (Blk (w56.alloc (.cells (ints [0, 1, 2, 3]).toArray 3)) gR 26 TV0.cells) := ⟨XR.out.below hbx XR.out.lt⟩; clear hbx; refine (tempered_any nm true 6 4 [0, 1, 2, 3] _ (w56.alloc (.cells (ints [0, 1, 2, 3]).toArray 3)) (contains_blk HXB.out 4 rfl (by decide))).mono ?_; rintro e w58 ⟨rfl, hb⟩; replace HB := HB.y hb; replace XR := XR.x hb; clear hb
    go_wp2_with ((with_reducible show wpList _ _ _ _ _ _); first
      | (refine wpList_store_whole rfl 26 (.tmp 2) (.tmp 37) rfl gR (TV.mk5 nm true 6 4 [0, 1, 2, 3] 12).cells rfl rfl 26 TV0.cells XR.out rfl (size_temper _) (TV.cells_one _) ?_; rintro w59 zm zs zb; replace HB := HB.v zm (by have := ORD.out; omega); replace XR : Sl (Blk w59 gR 26 (TV.mk5 nm true 6 4 [0, 1, 2, 3] 12).cells) := ⟨zb⟩; clear zm zs zb))
    refine bodyPost_ret (results_rowR rfl _ _ gR _ _ _ rfl XR.out Tryz.underlying26 rfl (size_temper _)) rfl ?_; exact ⟨by rw [HV.out]; rfl, HB.out⟩
  by_cases h5 : (nm.toList == [118, 97, 108, 108, 111, 116, 116, 105]) = true
  · have HV : Sl (sr = (TV.mk5 nm false 6 6 [0, 1, 2, 3, 4, 11] 12, 0)) := ⟨by rw [← HSR.out]; unfold stdT; rw [if_neg h0, if_neg h1, if_neg h2, if_neg h3, if_neg h4, if_pos h5]⟩; have e0 : (nm.toList == [101, 113, 117, 97, 108]) = false := (by simpa using h0); have e1 : (nm.toList == [112, 121, 116, 104, 97, 103, 111, 114, 101, 97, 110]) = false := (by simpa using h1); have e2 : (nm.toList == [109, 101, 97, 110, 116, 111, 110, 101]) = false := (by simpa using h2); have e3 : (nm.toList == [119, 101, 114, 99, 107, 109, 101, 105, 115, 116, 101, 114]) = false := (by simpa using h3); have e4 : (nm.toList == [107, 105, 114, 110, 98, 101, 114, 103, 101, 114]) = false := (by simpa using h4); clear h0; clear h1; clear h2; clear h3; clear h4; go_enter Tryz.func66, Tryz.ntmps66
    go_wp2_with ((with_reducible show wpList _ _ _ _ _ _); first
      | (refine wpList_alloc_new 2 rfl rfl 26 rfl TV0.cells alloc_temper ?_; rintro w70 gR zg zm zs zb; have ORD : Sl (w.heap.size ≤ gR) := ⟨by have := HB.out.size; omega⟩; replace HB := HB.v zm (by have := HB.out.size; have := ORD.out; omega); have XR : Sl (Blk w70 gR 26 TV0.cells) := ⟨zb⟩; clear zg zm zs zb))
    have hbx : Below w70.heap.size w70 (w70.alloc (.cells (ints [0, 1, 2, 3, 4, 11]).toArray 3)) := (Below.refl _ _).alloc (Nat.le_refl _) _; have HXB : Sl (Blk (w70.alloc (.cells (ints [0, 1, 2, 3, 4, 11]).toArray 3)) w70.heap.size 3 (ints [0, 1, 2, 3, 4, 11]).toArray) := ⟨Blk.new _ _ _⟩; replace HB : Sl (Below w.heap.size w (w70.alloc (.cells (ints [0, 1, 2, 3, 4, 11]).toArray 3))) := ⟨HB.out.trans (hbx.mono HB.out.size)⟩; replace XR : Sl (Blk (w70.alloc (.cells (ints [0, 1, 2, 3, 4, 11]).toArray 3)) gR 26 TV0.cells) := ⟨XR.out.below hbx XR.out.lt⟩; clear hbx; refine (tempered_any nm false 6 6 [0, 1, 2, 3, 4, 11] _ (w70.alloc (.cells (ints [0, 1, 2, 3, 4, 11]).toArray 3)) (contains_blk HXB.out 6 rfl (by decide))).mono ?_; rintro e w72 ⟨rfl, hb⟩; replace HB := HB.y hb; replace XR := XR.x hb; clear hb
    go_wp2_with ((with_reducible show wpList _ _ _ _ _ _); first
      | (refine wpList_store_whole rfl 26 (.tmp 2) (.tmp 44) rfl gR (TV.mk5 nm false 6 6 [0, 1, 2, 3, 4, 11] 12).cells rfl rfl 26 TV0.cells XR.out rfl (size_temper _) (TV.cells_one _) ?_; rintro w73 zm zs zb; replace HB := HB.v zm (by have := ORD.out; omega); replace XR : Sl (Blk w73 gR 26 (TV.mk5 nm false 6 6 [0, 1, 2, 3, 4, 11] 12).cells) := ⟨zb⟩; clear zm zs zb))
    refine bodyPost_ret (results_rowR rfl _ _ gR _ _ _ rfl XR.out Tryz.underlying26 rfl (size_temper _)) rfl ?_; exact ⟨by rw [HV.out]; rfl, HB.out⟩
  by_cases h6 : (nm.toList == [121, 111, 117, 110, 103]) = true
  · have HV : Sl (sr = (TV.mk5 nm false 11 6 [0, 1, 2, 3, 4, 5] 12, 0)) := ⟨by rw [← HSR.out]; unfold stdT; rw [if_neg h0, if_neg h1, if_neg h2, if_neg h3, if_neg h4, if_neg h5, if_pos h6]⟩; have e0 : (nm.toList == [101, 113, 117, 97, 108]) = false := (by simpa using h0); have e1 : (nm.toList == [112, 121, 116, 104, 97, 103, 111, 114, 101, 97, 110]) = false := (by simpa using h1); have e2 : (nm.toList == [109, 101, 97, 110, 116, 111, 110, 101]) = false := (by simpa using h2); have e3 : (nm.toList == [119, 101, 114, 99, 107, 109, 101, 105, 115, 116, 101, 114]) = false := (by simpa using h3); have e4 : (nm.toList == [107, 105, 114, 110, 98, 101, 114, 103, 101, 114]) = false := (by simpa using h4); have e5 : (nm.toList == [118, 97, 108, 108, 111, 116, 116, 105]) = false := (by simpa using h5); clear h0; clear h1; clear h2; clear h3; clear h4; clear h5; go_enter Tryz.func66, Tryz.ntmps66
    go_wp2_with ((with_reducible show wpList _ _ _ _ _ _); first
      | (refine wpList_alloc_new 2 rfl rfl 26 rfl TV0.cells alloc_temper ?_; rintro w84 gR zg zm zs zb; have ORD : Sl (w.heap.size ≤ gR) := ⟨by have := HB.out.size; omega⟩; replace HB := HB.v zm (by have := HB.out.size; have := ORD.out; omega); have XR : Sl (Blk w84 gR 26 TV0.cells) := ⟨zb⟩; clear zg zm zs zb))
    have hbx : Below w84.heap.size w84 (w84.alloc (.cells (ints [0, 1, 2, 3, 4, 5]).toArray 3)) := (Below.refl _ _).alloc (Nat.le_refl _) _; have HXB : Sl (Blk (w84.alloc (.cells (ints [0, 1, 2, 3, 4, 5]).toArray 3)) w84.heap.size 3 (ints [0, 1, 2, 3, 4, 5]).toArray) := ⟨Blk.new _ _ _⟩; replace HB : Sl (Below w.heap.size w (w84.alloc (.cells (ints [0, 1, 2, 3, 4, 5]).toArray 3))) := ⟨HB.out.trans (hbx.mono HB.out.size)⟩; replace XR : Sl (Blk (w84.alloc (.cells (ints [0, 1, 2, 3, 4, 5]).toArray 3)) gR 26 TV0.cells) := ⟨XR.out.below hbx XR.out.lt⟩; clear hbx; refine (tempered_any nm false 11 6 [0, 1, 2, 3, 4, 5] _ (w84.alloc (.cells (ints [0, 1, 2, 3, 4, 5]).toArray 3)) (contains_blk HXB.out 6 rfl (by decide))).mono ?_; rintro e w86 ⟨rfl, hb⟩; replace HB := HB.y hb; replace XR := XR.x hb; clear hb
    go_wp2_with ((with_reducible show wpList _ _ _ _ _ _); first
      | (refine wpList_store_whole rfl 26 (.tmp 2) (.tmp 51) rfl gR (TV.mk5 nm false 11 6 [0, 1, 2, 3, 4, 5] 12).cells rfl rfl 26 TV0.cells XR.out rfl (size_temper _) (TV.cells_one _) ?_; rintro w87 zm zs zb; replace HB := HB.v zm (by have := ORD.out; omega); replace XR : Sl (Blk w87 gR 26 (TV.mk5 nm false 11 6 [0, 1, 2, 3, 4, 5] 12).cells) := ⟨zb⟩; clear zm zs zb))
    refine bodyPost_ret (results_rowR rfl _ _ gR _ _ _ rfl XR.out Tryz.underlying26 rfl (size_temper _)) rfl ?_; exact ⟨by rw [HV.out]; rfl, HB.out⟩
  have HV : Sl (sr = (TV0, 4)) := ⟨by rw [← HSR.out]; unfold stdT; rw [if_neg h0, if_neg h1, if_neg h2, if_neg h3, if_neg h4, if_neg h5, if_neg h6]⟩; have e0 : (nm.toList == [101, 113, 117, 97, 108]) = false := (by simpa using h0); have e1 : (nm.toList == [112, 121, 116, 104, 97, 103, 111, 114, 101, 97, 110]) = false := (by simpa using h1); have e2 : (nm.toList == [109, 101, 97, 110, 116, 111, 110, 101]) = false := (by simpa using h2); have e3 : (nm.toList == [119, 101, 114, 99, 107, 109, 101, 105, 115, 116, 101, 114]) = false := (by simpa using h3); have e4 : (nm.toList == [107, 105, 114, 110, 98, 101, 114, 103, 101, 114]) = false := (by simpa using h4); have e5 : (nm.toList == [118, 97, 108, 108, 111, 116, 116, 105]) = false := (by simpa using h5); have e6 : (nm.toList == [121, 111, 117, 110, 103]) = false := (by simpa using h6); clear h0; clear h1; clear h2; clear h3; clear h4; clear h5; clear h6; go_enter Tryz.func66, Tryz.ntmps66
  go_wp2_with ((with_reducible show wpList _ _ _ _ _ _); first
    | (refine wpList_alloc_new 2 rfl rfl 26 rfl TV0.cells alloc_temper ?_; rintro w98 gR zg zm zs zb; have ORD : Sl (w.heap.size ≤ gR) := ⟨by have := HB.out.size; omega⟩; replace HB := HB.v zm (by have := HB.out.size; have := ORD.out; omega); have XR : Sl (Blk w98 gR 26 TV0.cells) := ⟨zb⟩; clear zg zm zs zb)
    | (refine wpList_store_whole rfl 26 (.tmp 2) (.tmp 53) rfl gR TV0.cells rfl rfl 26 TV0.cells XR.out rfl (size_temper _) (TV.cells_one _) ?_; rintro w99 zm zs zb; replace HB := HB.v zm (by have := ORD.out; omega); replace XR : Sl (Blk w99 gR 26 TV0.cells) := ⟨zb⟩; clear zm zs zb))
  refine bodyPost_ret (results_rowR rfl _ _ gR _ _ _ rfl XR.out Tryz.underlying26 rfl (size_temper _)) rfl ?_; exact ⟨by rw [HV.out]; rfl, HB.out⟩
set_option maxHeartbeats 6400000 in
set_option maxRecDepth 100000 in
theorem named0 (nm : ByteArray) (hs : ∀ W : World, Calls Tryz.prog 66 #[.string nm] W fun e w' => e = .returned (.tuple #[.agg (stdT nm).1.cells, .int .i64 (stdT nm).2]) ∧ Below W.heap.size W w') (w : World) : Calls Tryz.prog 34 #[.string nm] w fun e w' => e = .returned (.agg (stdT nm).1.cells) ∧ Below w.heap.size w w' := by
  have HB : Sl (Below w.heap.size w w) := ⟨Below.refl _ _⟩; have HS : Sl _ := ⟨hs⟩; clear hs; obtain ⟨⟨tt, er⟩, ht⟩ : ∃ x, stdT nm = x := ⟨_, rfl⟩; rw [ht] at HS ⊢; clear ht; go_enter Tryz.func34, Tryz.ntmps34
  go_wp2_with ((with_reducible show wpList _ _ _ _ _ _); first
    | (refine wpList_alloc_new 2 rfl rfl 26 rfl TV0.cells alloc_temper ?_; rintro w1 gR zg zm zs zb; have ORD : Sl (w.heap.size ≤ gR) := ⟨by have := HB.out.size; omega⟩; replace HB := HB.v zm (by have := HB.out.size; have := ORD.out; omega); have XR : Sl (Blk w1 gR 26 TV0.cells) := ⟨zb⟩; clear zg zm zs zb))
  refine (HS.out _).mono ?_; rintro e w2 ⟨rfl, hb⟩; replace HB := HB.y hb; replace XR := XR.x hb; clear hb
  go_wp2_with ((with_reducible show wpList _ _ _ _ _ _); first
    | (refine wpList_alloc_new 3 rfl rfl 26 rfl TV0.cells alloc_temper ?_; rintro w3 gU zg zm zs zb; replace ORD : Sl (w.heap.size ≤ gR ∧ gR < gU) := ⟨by have := HB.out.size; have := ORD.out; have := XR.out.lt; omega⟩; replace HB := HB.v zm (by have := HB.out.size; have := ORD.out; omega); replace XR := XR.w zm (by have := XR.out.lt; have := ORD.out; omega); have XU : Sl (Blk w3 gU 26 TV0.cells) := ⟨zb⟩; clear zg zm zs zb)
    | (refine wpList_store_whole rfl 26 (.tmp 3) (.tmp 8) rfl gU tt.cells rfl rfl 26 TV0.cells XU.out rfl (size_temper _) (TV.cells_one _) ?_; rintro w4 zm zs zb; replace HB := HB.v zm (by have := ORD.out; omega); replace XR := XR.w zm (by have := XR.out.lt; have := ORD.out; omega); replace XU : Sl (Blk w4 gU 26 tt.cells) := ⟨zb⟩; clear zm zs zb)
    | (refine wpList_load_whole rfl 26 (.tmp 3) rfl gU rfl 26 tt.cells _ XU.out Tryz.underlying26 rfl (size_temper _) ?_)
    | (refine wpList_store_whole rfl 26 (.tmp 2) (.tmp 10) rfl gR tt.cells rfl rfl 26 TV0.cells XR.out rfl (size_temper _) (TV.cells_one _) ?_; rintro w5 zm zs zb; replace HB := HB.v zm (by have := ORD.out; omega); replace XU := XU.w zm (by have := XU.out.lt; have := ORD.out; omega); replace XR : Sl (Blk w5 gR 26 tt.cells) := ⟨zb⟩; clear zm zs zb))
  refine bodyPost_ret (results_cell_row rfl _ _ gR _ _ _ _ rfl XR.out Tryz.underlying26 rfl (size_temper _)) rfl ?_; exact ⟨rfl, HB.out⟩
theorem named_any (nm : ByteArray) (w : World) : Calls Tryz.prog 34 #[.string nm] w fun e w' => e = .returned (.agg (stdT nm).1.cells) ∧ Below w.heap.size w w' := named0 nm (Standard_any nm) w
end Go.Proofs.YtmcoadmnkelkkaaGreatDoor
namespace Go.Proofs.YtmcoadmnkelkkaaGreatDoor
set_option linter.unusedSimpArgs false
open Go.RowKit
set_option linter.unusedVariables false
theorem ce_ex {u : Nat → Int} {D : Int} (hu : fitsV u D) (h1 : TT (-D) u) (h2 : SS D u) {w : World} (hT : PrT w) : ∃ b, Ce (nr u D) (cmN u D) b := by
  obtain ⟨e, w1, _, ⟨hc, _⟩, _⟩ := Cents_any (nr u D) w hT []; obtain ⟨⟨b, _, h⟩, _⟩ := cents_tame hu h1 h2 hc; exact ⟨b, h⟩
theorem std_mt : (stdT ⟨#[109, 101, 97, 110, 116, 111, 110, 101]⟩).1.cells = mtT.cells := by
  have e : stdT ⟨#[109, 101, 97, 110, 116, 111, 110, 101]⟩ = (TV.mk5 ⟨#[109, 101, 97, 110, 116, 111, 110, 101]⟩ true 8 4 [0, 1, 2, 3, 4, 5, 6, 7, 9, 10, 11] 12, 0) := by
    unfold stdT; rw [if_neg (by decide +kernel), if_neg (by decide +kernel), if_pos (by decide +kernel)]
  rw [e]; refine TV.cells_ext (by decide +kernel) rfl rfl (fun i hi => ?_) (fun i hi => ?_)
  · have h : ∀ i, i < 12 → (TV.mk5 ⟨#[109, 101, 97, 110, 116, 111, 110, 101]⟩ true 8 4 [0, 1, 2, 3, 4, 5, 6, 7, 9, 10, 11] 12).num i = mtT.num i := (by decide +kernel); exact h i hi
  · have h : ∀ i, i < 12 → (TV.mk5 ⟨#[109, 101, 97, 110, 116, 111, 110, 101]⟩ true 8 4 [0, 1, 2, 3, 4, 5, 6, 7, 9, 10, 11] 12).den i = mtT.den i := (by decide +kernel); exact h i hi
theorem mtT_nm : mtT.nm.size ≤ maxLen := by
  have : mtT.nm.size = 8 := (by decide +kernel); rw [this]; decide
theorem mt_note {k a b c : Nat} (hk : k ≤ 12) {w : World} (hT : PrT w) : ∃ b, Ce (nr (mt.n k) mt.D) (cmN (mt.n k) mt.D) b := by
  obtain ⟨h1, h2⟩ := mt_ok.n_range hk; exact ce_ex (mt_ok.n_fits hk) (h1.mono (by decide)) h2 hT
theorem mt_v4 {w : World} (hT : PrT w) : (mtT.cl 12)[4]? = some 386313 := by
  have hT0 := hT; obtain ⟨b, h⟩ := mt_note (k := 4) (a := 0) (b := 0) (c := 0) (by decide) hT; have := mt_c4 mt_n4 h; unfold TV.cl; rw [mtT_tp]; simp; exact this
theorem mt_v7 {w : World} (hT : PrT w) : (mtT.cl 12)[7]? = some 696578 := by
  obtain ⟨b, h⟩ := mt_note (k := 1) (a := 0) (b := 0) (c := 0) (by decide) hT; have := mt_c1 mt_n1 h; unfold TV.cl; rw [mtT_tp]; simp; exact this
theorem mt_ex {p : Nat → Int} (hp : Pure p) {a b : Nat} (ha : a ≤ 12) (hb : b ≤ 12) {w : World} (hT : PrT w) : ∃ z, Ce (nr (mt.x p a b) mt.D) (cmN (mt.x p a b) mt.D) z := by
  obtain ⟨h1, h2⟩ := mt_ok.x_rng hp ha hb; exact ce_ex (mt_ok.x_fits hp ha hb) h1 h2 hT
theorem mt_tri {w : World} (hT : PrT w) : mtT.tri 8 = (41058, 35682, 0) := by
  have e1 : mtT.xc b54 8 12 = 41058 := by
    unfold TV.xc TV.X; rw [mtT_tp]; obtain ⟨z, h⟩ := mt_ex pure54 (a := 8) (b := 0) (by decide) (by decide) hT; refine mt_third (fun j hj => ?_) h; unfold TP.x TP.b; rw [mt_b80 j hj]
    revert j
    decide
  have e2 : mtT.xc b32 8 15 = 35682 := by
    unfold TV.xc TV.X; rw [mtT_tp]; obtain ⟨z, h⟩ := mt_ex pure32 (a := 8) (b := 9) (by decide) (by decide) hT; refine mt_fifth (fun j hj => ?_) h; unfold TP.x TP.b; rw [mt_b89 j hj]
    revert j
    decide
  unfold TV.tri; rw [if_pos mtT_chk, if_pos (by decide)]; show (mtT.xc b54 8 12, mtT.xc b32 8 15, (0 : Int)) = _; rw [e1, e2]
set_option maxHeartbeats 6400000 in
set_option maxRecDepth 100000 in
theorem awake5_any (w : World) (hT : PrT w) : Calls Tryz.prog 9 #[] w fun e w' => e = .returned (.bool true) ∧ Below w.heap.size w w' := by
  have HB : Sl (Below w.heap.size w w) := ⟨Below.refl _ _⟩; have HT : Sl _ := ⟨hT⟩
  have HNA : Sl (∀ W : World, Calls Tryz.prog 34 #[.string ⟨#[109, 101, 97, 110, 116, 111, 110, 101]⟩] W fun e w' => e = .returned (.agg mtT.cells) ∧ Below W.heap.size W w') := ⟨fun W => by
    have := named0 ⟨#[109, 101, 97, 110, 116, 111, 110, 101]⟩ (Standard_mt _ (by decide +kernel)) W; rw [std_mt] at this
    exact this⟩
  have HCE : Sl (∀ W : World, PrT W → Calls Tryz.prog 22 #[.agg mtT.cells] W fun e w' => (∃ g c, e = .returned (.tuple #[.slice (some ⟨g, 0, none⟩) 12 c, .int .i64 0]) ∧ g < w'.heap.size ∧ w'.cell? ⟨g, 4, none⟩ = some (.int .i64 386313) ∧ w'.cell? ⟨g, 7, none⟩ = some (.int .i64 696578)) ∧ Below W.heap.size W w') := ⟨fun W h => (tCents_any mtT mtT_nm W h).mono fun e w' ⟨hc, hb⟩ => by
    obtain ⟨v, rfl, ho⟩ := hc.2 mtT_chk; obtain ⟨g, c, rfl, _, hlt⟩ := ho.form (by decide); have h4 := World.ownsRow.cellAt ho 4 (by decide); have h7 := World.ownsRow.cellAt ho 7 (by decide); unfold ints at h4 h7; rw [List.getElem?_map, mt_v4 h] at h4; rw [List.getElem?_map, mt_v7 h] at h7
    exact ⟨⟨g, c, rfl, hlt, h4, h7⟩, hb⟩⟩
  have HTR : Sl (∀ W : World, PrT W → Calls Tryz.prog 27 #[.agg mtT.cells, .int .i64 8] W fun e w' => e = .returned (.tuple #[.int .i64 41058, .int .i64 35682, .int .i64 0]) ∧ Below W.heap.size W w') := ⟨fun W h => by
    have := ttriad_any mtT mtT_nm 8 W h; rw [mt_tri h] at this
    exact this⟩
  clear hT; go_enter Tryz.func9, Tryz.ntmps9; go_wp2_with fail; refine (HNA.out _).mono ?_; rintro e w1 ⟨rfl, hb⟩; replace HB := HB.y hb; clear hb; go_wp2_with fail; refine (HCE.out _ (HT.out.below HB.out)).mono ?_; rintro e w2 ⟨⟨g, cp, rfl, hlt, h4, h7⟩, hb⟩; replace HB := HB.y hb; have HG : Sl _ := ⟨And.intro hlt (And.intro h4 h7)⟩; clear hb hlt h4 h7; go_wp2_with fail; refine (HNA.out _).mono ?_; rintro e w3 ⟨rfl, hb⟩; replace HG : Sl (g < w3.heap.size ∧ w3.cell? ⟨g, 4, none⟩ = some (.int .i64 386313) ∧ w3.cell? ⟨g, 7, none⟩ = some (.int .i64 696578)) := ⟨Nat.lt_of_lt_of_le HG.out.1 hb.size, (hb.cell (p := ⟨g, 4, none⟩) HG.out.1).trans HG.out.2.1, (hb.cell (p := ⟨g, 7, none⟩) HG.out.1).trans HG.out.2.2⟩; replace HB := HB.y hb; clear hb; go_wp2_with fail; refine (HTR.out _ (HT.out.below HB.out)).mono ?_; rintro e w4 ⟨rfl, hb⟩; have k4 : w4.cell? ⟨g, 4, none⟩ = some (.int .i64 386313) := (hb.cell (p := ⟨g, 4, none⟩) HG.out.1).trans HG.out.2.1; have k7 : w4.cell? ⟨g, 7, none⟩ = some (.int .i64 696578) := (hb.cell (p := ⟨g, 7, none⟩) HG.out.1).trans HG.out.2.2; replace HB := HB.y hb; clear hb; go_wp2_with fail; go_ret; exact ⟨rfl, HB.out⟩
end Go.Proofs.YtmcoadmnkelkkaaGreatDoor
namespace Go.Proofs.YtmcoadmnkelkkaaGreatDoor
set_option linter.unusedSimpArgs false
set_option linter.unusedVariables false
end Go.Proofs.YtmcoadmnkelkkaaGreatDoor
namespace Go.Proofs.YtmcoadmnkelkkaaGreatDoor
set_option linter.unusedSimpArgs false
open Go.RowKit
set_option linter.unusedVariables false
end Go.Proofs.YtmcoadmnkelkkaaGreatDoor
namespace Go.Proofs.YtmcoadmnkelkkaaGreatDoor
set_option linter.unusedSimpArgs false
open Go.RowKit
set_option linter.unusedVariables false
end Go.Proofs.YtmcoadmnkelkkaaGreatDoor
namespace Go.Proofs.YtmcoadmnkelkkaaGreatDoor
set_option linter.unusedSimpArgs false
open Go.RowKit
set_option linter.unusedVariables false
attribute [-simp] Tryz.isAgg35
end Go.Proofs.YtmcoadmnkelkkaaGreatDoor
namespace Go.Proofs.YtmcoadmnkelkkaaGreatDoor
set_option linter.unusedSimpArgs false
open Go.RowKit
set_option linter.unusedVariables false
section
variable {P : Program} {ops : Array Oper} {Q : Exit → Act → World → Prop} {md : Region.Mode} {S : World → Prop}
end
section
variable {P : Program} {op : Oper} {a : Act} {w : World} {K : Act → World → Prop} {Q : Exit → Act → World → Prop}
end
end Go.Proofs.YtmcoadmnkelkkaaGreatDoor
namespace Go.Proofs.YtmcoadmnkelkkaaGreatDoor
set_option linter.unusedSimpArgs false
open Go.RowKit
set_option linter.unusedVariables false
attribute [-simp] Tryz.isAgg35 Tryz.isAgg26
end Go.Proofs.YtmcoadmnkelkkaaGreatDoor
namespace Go.Proofs.YtmcoadmnkelkkaaGreatDoor
set_option linter.unusedSimpArgs false
open Go.RowKit
set_option linter.unusedVariables false
attribute [-simp] Tryz.isAgg35 Tryz.isAgg26 Tryz.isAgg24 Tryz.isAgg23
end Go.Proofs.YtmcoadmnkelkkaaGreatDoor
namespace Go.Proofs.YtmcoadmnkelkkaaGreatDoor
set_option linter.unusedSimpArgs false
open Go.RowKit
set_option linter.unusedVariables false
attribute [-simp] Tryz.isAgg35 Tryz.isAgg26 Tryz.isAgg24 Tryz.isAgg23
def TP.u (t : TP) (k j i : Nat) : Int := oct (7 * t.D) i - (t.G j i - t.G k i)
end Go.Proofs.YtmcoadmnkelkkaaGreatDoor
namespace Go.Proofs.YtmcoadmnkelkkaaGreatDoor
set_option linter.unusedSimpArgs false
open Go.RowKit
set_option linter.unusedVariables false
attribute [-simp] Tryz.isAgg35 Tryz.isAgg26 Tryz.isAgg24 Tryz.isAgg23
end Go.Proofs.YtmcoadmnkelkkaaGreatDoor
namespace Go.Proofs.YtmcoadmnkelkkaaGreatDoor
set_option linter.unusedSimpArgs false
open Go.RowKit
set_option linter.unusedVariables false
attribute [-simp] Tryz.isAgg35 Tryz.isAgg26 Tryz.isAgg24 Tryz.isAgg23
end Go.Proofs.YtmcoadmnkelkkaaGreatDoor
namespace Go.Proofs.YtmcoadmnkelkkaaGreatDoor
set_option linter.unusedSimpArgs false
open Go.RowKit
set_option linter.unusedVariables false
attribute [-simp] Tryz.isAgg35 Tryz.isAgg26 Tryz.isAgg24 Tryz.isAgg23
end Go.Proofs.YtmcoadmnkelkkaaGreatDoor
namespace Go.Proofs.YtmcoadmnkelkkaaGreatDoor
set_option linter.unusedSimpArgs false
open Go.RowKit
set_option linter.unusedVariables false
attribute [-simp] Tryz.isAgg35 Tryz.isAgg26 Tryz.isAgg24 Tryz.isAgg23
end Go.Proofs.YtmcoadmnkelkkaaGreatDoor
namespace Go.Proofs.YtmcoadmnkelkkaaGreatDoor
set_option linter.unusedSimpArgs false
open Go.RowKit
set_option linter.unusedVariables false
attribute [-simp] Tryz.isAgg35 Tryz.isAgg26 Tryz.isAgg24 Tryz.isAgg23
end Go.Proofs.YtmcoadmnkelkkaaGreatDoor
namespace Go.Proofs.YtmcoadmnkelkkaaGreatDoor
set_option linter.unusedSimpArgs false
open Go.RowKit
set_option linter.unusedVariables false
attribute [-simp] Tryz.isAgg67 Tryz.isAgg35 Tryz.isAgg26 Tryz.isAgg24 Tryz.isAgg23
theorem size_i64 : (Tryz.prog.info? 2).map (·.size) = some 1 := by kernel_rfl
theorem cm_bd {u : Nat → Int} {D : Int} (hu : fitsV u D) (h1 : TT (-D) u) (h2 : SS D u) {w : World} (hT : PrT w) : -1200000 ≤ cmN u D ∧ cmN u D < 1200000 := by
  obtain ⟨e, w1, _, ⟨hc, _⟩, _⟩ := Cents_any (nr u D) w hT []; exact (cents_tame hu h1 h2 hc).2
noncomputable def TV.c (t : TV) (j : Nat) : Int := cmN (t.tp.n (7 * j % 12)) t.tp.D
theorem TV.c_bd {t : TV} (h : t.chk nameS = 0) {w : World} (hT : PrT w) (j : Nat) : -1200000 ≤ t.c j ∧ t.c j < 1200000 := by
  have ho := TV.tp_ok h; obtain ⟨h1, h2⟩ := ho.n_range (k := 7 * j % 12) (by omega); exact cm_bd (ho.n_fits (by omega)) (h1.mono (by have := ho.hD; omega)) h2 hT
theorem TV.cl_at (t : TV) {j : Nat} (hj : j < 12) : (t.cl 12)[j]?.getD 0 = t.c j := by
  unfold TV.cl TV.c; rw [List.getElem?_map, List.getElem?_range hj]; rfl
noncomputable def TV.of (t : TV) (k j : Nat) : Int := if j < k then t.c j - 100000 * (j : Int) else t.c j
set_option maxHeartbeats 6400000 in
set_option maxRecDepth 100000 in
theorem sameInts_none (w : World) : Calls Tryz.prog 33 #[.slice none 0 0, .slice none 0 0] w fun e w' => e = .returned (.bool true) ∧ Below w.heap.size w w' := by
  have HB : Sl (Below w.heap.size w w) := ⟨Below.refl _ _⟩; go_enter Tryz.func33, Tryz.ntmps33; go_wp2_with fail
  go_loopw [5] (fun s5 wr => s5 = .int .i64 0 ∧ Sl (Below w.heap.size w wr)) (fun _ _ => 0)
  case atStart => exact ⟨rfl, HB⟩
  case round =>
    clear HB; obtain ⟨rfl, HB⟩ := hrel; go_wp2_with fail; go_ret; exact ⟨rfl, HB.out⟩
set_option maxHeartbeats 6400000 in
set_option maxRecDepth 100000 in
theorem sameInts_any (f : Nat → Int) (g1 g2 n c1 c2 : Nat) (w : World) (hn : n ≤ 12) (h1 : IB w g1 n f) (h2 : IB w g2 n f) : Calls Tryz.prog 33 #[.slice (some ⟨g1, 0, none⟩) n c1, .slice (some ⟨g2, 0, none⟩) n c2] w fun e w' => e = .returned (.bool true) ∧ Below w.heap.size w w' := by
  have HB : Sl (Below w.heap.size w w) := ⟨Below.refl _ _⟩; have XA : Sl (IB w g1 n f) := ⟨h1⟩; have XC : Sl (IB w g2 n f) := ⟨h2⟩; clear h1 h2; go_enter Tryz.func33, Tryz.ntmps33; go_wp2_with fail
  go_loopw [5] (fun s5 wr => ∃ k : Nat, k ≤ n ∧ s5 = .int .i64 k ∧ Sl (Below w.heap.size w wr)) (fun s5 _ => n - (RowKit.intOf s5).toNat)
  case atStart => exact ⟨0, Nat.zero_le _, rfl, HB⟩
  case round =>
    clear HB; obtain ⟨k, hk, rfl, HB⟩ := hrel; replace XA : Sl (IB wr g1 n f) := ⟨XA.out.below HB.out XA.out.lt⟩; replace XC : Sl (IB wr g2 n f) := ⟨XC.out.below HB.out XC.out.lt⟩
    by_cases hkn : k < n
    · have hk1 : (0 : Int) ≤ (k : Int) := (by omega); have hk2 : (k : Int) < (n : Int) := (by omega); have hn1 : (n : Int) ≤ 12 := (by omega); obtain ⟨z, hz⟩ : ∃ z, f k = z := ⟨_, rfl⟩; have HZ : Sl _ := ⟨hz⟩; clear hz; go_wp2_with fail; have hm : Mv wr.heap.size wr wr.drew := Mv.drew _ _; have hs : RowKit.Below wr.heap.size wr wr.drew := below_drewN (Below.refl _ _) 1; have HSW : Sl _ := ⟨hs⟩; clear hs; refine wp_region_held_drew (S := fun w' => Mv wr.heap.size wr w') (by kernel_rfl) hm (fun hHeld => ?_); clear hm; refine wpAnyH_pure 0 (v := .slice (some ⟨g1, 0, none⟩) n c1) rfl (by kernel_rfl) (by kernel_rfl) (by kernel_rfl) (fun _ _ _ h => h) rfl (fun _ => rfl) (by assumption) ?_; simp only [Act.put, sS0, sS1, sS2]; refine wpAnyH_pure 1 (v := .int .i64 (k : Int)) rfl (by kernel_rfl) (by kernel_rfl) (by kernel_rfl) (fun _ _ _ h => h) rfl (fun _ => rfl) (by assumption) ?_; simp only [Act.put, sS0, sS1, sS2]; refine wpAnyH_pure 2 (v := .pointer (some ⟨g1, k, none⟩)) rfl (by kernel_rfl) (by kernel_rfl) (by kernel_rfl) (fun _ _ _ h => h) rfl (fun _ => by go_simp) (by assumption) ?_; simp only [Act.put, sS0, sS1, sS2]
      refine wpAnyH_cell 3 (v := .int .i64 z) rfl rfl (fun w' h => by
        have e := (XA.out.mv h (by have := XA.out.lt; omega)).cell hkn; rw [HZ.out] at e
        go_simp) (by kernel_rfl) (by kernel_rfl) (by kernel_rfl) (fun _ _ _ h => h) (by assumption) ?_
      simp only [Act.put, sS0, sS1, sS2]; refine wpAnyH_pure 4 (v := .slice (some ⟨g2, 0, none⟩) n c2) rfl (by kernel_rfl) (by kernel_rfl) (by kernel_rfl) (fun _ _ _ h => h) rfl (fun _ => rfl) (by assumption) ?_; simp only [Act.put, sS0, sS1, sS2]; refine wpAnyH_pure 5 (v := .int .i64 (k : Int)) rfl (by kernel_rfl) (by kernel_rfl) (by kernel_rfl) (fun _ _ _ h => h) rfl (fun _ => rfl) (by assumption) ?_; simp only [Act.put, sS0, sS1, sS2]; refine wpAnyH_pure 6 (v := .pointer (some ⟨g2, k, none⟩)) rfl (by kernel_rfl) (by kernel_rfl) (by kernel_rfl) (fun _ _ _ h => h) rfl (fun _ => by go_simp) (by assumption) ?_; simp only [Act.put, sS0, sS1, sS2]
      refine wpAnyH_cell 7 (v := .int .i64 z) rfl rfl (fun w' h => by
        have e := (XC.out.mv h (by have := XC.out.lt; omega)).cell hkn; rw [HZ.out] at e
        go_simp) (by kernel_rfl) (by kernel_rfl) (by kernel_rfl) (fun _ _ _ h => h) (by assumption) ?_
      simp only [Act.put, sS0, sS1, sS2]; refine wpAnyH_pure 8 (v := .bool false) rfl (by kernel_rfl) (by kernel_rfl) (by kernel_rfl) (fun _ _ _ h => h) rfl (fun _ => by go_simp) (by assumption) ?_; simp only [Act.put, sS0, sS1, sS2]; refine wpAnyH_done (by kernel_rfl) ?_ _; replace HB : Sl (Below w.heap.size w wr.drew) := ⟨HB.out.trans (HSW.out.mono HB.out.size)⟩; replace XA := XA.xi HSW.out; replace XC := XC.xi HSW.out; clear HSW; (try clear hHeld); go_wp2_with fail; exact ⟨⟨k + 1, hkn, by go_num, HB⟩, by simp [RowKit.intOf]; omega⟩
    · obtain rfl : k = n := (by omega); go_wp2_with fail; go_ret; exact ⟨rfl, HB.out⟩
def ILR (w w' : World) (e : Ending) (c : Int) (n : Nat) (f : Nat → Int) : Prop :=
  (c ≠ 0 → e = .returned (.tuple #[.slice none 0 0, .int .i64 c])) ∧
  (c = 0 → n = 0 → e = .returned (.tuple #[.slice none 0 0, .int .i64 0])) ∧
  (c = 0 → 0 < n → ∃ g cap, e = .returned (.tuple #[.slice (some ⟨g, 0, none⟩) n cap, .int .i64 0]) ∧ w.heap.size ≤ g ∧ IB w' g n f)
theorem TV.of_step (t : TV) (k : Nat) : ∀ j, j < 12 → upd (t.of k) k (t.c k - 100000 * (k : Int)) j = t.of (k + 1) j := fun j _ => by
  unfold upd TV.of
  by_cases h : j = k
  · subst h; rw [if_pos rfl, if_pos (by omega)]
  · rw [if_neg h]
    by_cases h2 : j < k
    · rw [if_pos h2, if_pos (by omega)]
    · rw [if_neg h2, if_neg (by omega)]
theorem TV.of_at (t : TV) (k : Nat) : t.of k k = t.c k := by unfold TV.of; rw [if_neg (by omega)]
set_option maxHeartbeats 6400000 in
set_option maxRecDepth 100000 in
theorem tOff_any (t : TV) (hs : t.nm.size ≤ maxLen) {w0 : World} (hT0 : PrT w0) (w : World) (hT : PrT w) : Calls Tryz.prog 24 #[.agg t.cells] w fun e w' => ILR w w' e (t.chk nameS) 12 (t.of 12) ∧ Below w.heap.size w w' := by
  have HB : Sl (Below w.heap.size w w) := ⟨Below.refl _ _⟩; have HT : Sl _ := ⟨hT⟩; have HCE : Sl (∀ W : World, PrT W → Calls Tryz.prog 22 #[.agg t.cells] W fun e w' => CentsT W w' e t ∧ Below W.heap.size W w') := ⟨fun W h => tCents_any t hs W h⟩; clear hT hs hT0; obtain ⟨c, hc⟩ : ∃ c, t.chk nameS = c := ⟨_, rfl⟩; rw [hc]; have HC : Sl _ := ⟨hc⟩; clear hc; go_enter Tryz.func24, Tryz.ntmps24
  go_wp2_with ((with_reducible show wpList _ _ _ _ _ _); first
    | (refine wpList_box_new 1 rfl rfl 26 (.tmp 0) rfl t.cells rfl (box_temper t) ?_; rintro w1 gT zg zm zs zb; have ORD : Sl (w.heap.size ≤ gT) := ⟨by have := HB.out.size; omega⟩; replace HB := HB.v zm (by have := HB.out.size; have := ORD.out; omega); have XT : Sl (Blk w1 gT 26 t.cells) := ⟨zb⟩; clear zg zm zs zb)
    | (refine wpList_load_whole rfl 26 (.tmp 1) rfl gT rfl 26 t.cells _ XT.out Tryz.underlying26 rfl (size_temper t) ?_))
  by_cases h0 : c = 0
  · subst h0; refine (HCE.out _ (HT.out.below HB.out)).mono ?_; rintro e w2 ⟨⟨_, hf⟩, hb⟩; obtain ⟨v, rfl, hv⟩ := hf HC.out; clear hf; obtain ⟨gL, cap, rfl, hge, zb⟩ := IB.of_own hv (by decide); clear hv; have XL : Sl (IB w2 gL 12 (t.of 0)) := ⟨zb.congr fun j hj => by rw [t.cl_at hj]; rfl⟩; clear zb; replace ORD : Sl (w.heap.size ≤ gT ∧ gT < gL) := ⟨by have := HB.out.size; have := ORD.out; have := XT.out.lt; omega⟩; replace HB := HB.y hb; replace XT := XT.x hb; clear hb hge; have HBD : Sl _ := ⟨fun j => TV.c_bd HC.out HT.out j⟩; go_wp2_with fail
    go_loopw [14] (fun sk wr => ∃ k : Nat, k ≤ 12 ∧ sk = .int .i64 k ∧ Sl (Below w.heap.size w wr) ∧ Sl (IB wr gL 12 (t.of k))) (fun sk _ => 12 - (RowKit.intOf sk).toNat)
    case atStart => exact ⟨0, by decide, rfl, HB, XL⟩
    case round =>
      clear HB XL XT; obtain ⟨k, hk, rfl, HB, XL⟩ := hrel
      by_cases hk12 : k < 12
      · have hk1 : (0 : Int) ≤ (k : Int) := (by omega); have hk2 : (k : Int) < 12 := (by omega); obtain ⟨m, hm⟩ : ∃ m, t.c k = m := ⟨_, rfl⟩; obtain ⟨hm1, hm2⟩ := HBD.out k; rw [hm] at hm1 hm2; have hcl := XL.out.cell hk12; rw [t.of_at, hm] at hcl; have HM : Sl _ := ⟨hm⟩; clear hm
        go_wp2_with ((with_reducible show wpList _ _ _ _ _ _); first
          | (refine wpList_store_ib rfl 2 (.tmp 24) _ rfl gL 12 (k) ((m - 100000 * (k : Int))) (t.of k) rfl rfl XL.out hk12 size_i64 ?_; rintro w3 zm zs zb; replace HB := HB.v zm (by have := HB.out.size; have := ORD.out; omega); replace XL : Sl (IB w3 gL 12 (upd (t.of k) k (m - 100000 * (k : Int)))) := ⟨zb⟩; clear zm zs zb))
        exact ⟨⟨k + 1, hk12, by go_num, HB, ⟨XL.out.congr (by rw [← HM.out]; exact t.of_step k)⟩⟩, by simp [RowKit.intOf]; omega⟩
      · obtain rfl : k = 12 := (by omega); go_wp2_with fail; go_ret2; exact ⟨⟨fun h => absurd rfl h, fun _ h => absurd h (by decide), fun _ _ => ⟨gL, cap, rfl, by have := ORD.out; omega, XL.out⟩⟩, HB.out⟩
  · skip; refine (HCE.out _ (HT.out.below HB.out)).mono ?_; rintro e w24 ⟨⟨hf, _⟩, hb⟩; obtain rfl := hf (by rw [HC.out]; exact h0); clear hf; rw [HC.out]; replace HB := HB.y hb; replace XT := XT.x hb; clear hb XT; go_wp2_with fail
    go_loopw [14] (fun sk wr => sk = .int .i64 0 ∧ Sl (Below w.heap.size w wr)) (fun _ _ => 0)
    case atStart => exact ⟨rfl, HB⟩
    case round =>
      clear HB; obtain ⟨rfl, HB⟩ := hrel; go_wp2_with fail; go_ret2; exact ⟨⟨fun _ => rfl, fun h => absurd h h0, fun h => absurd h h0⟩, HB.out⟩
end Go.Proofs.YtmcoadmnkelkkaaGreatDoor
namespace Go.Proofs.YtmcoadmnkelkkaaGreatDoor
set_option linter.unusedSimpArgs false
open Go.RowKit
set_option linter.unusedVariables false
attribute [-simp] Tryz.isAgg67 Tryz.isAgg35 Tryz.isAgg26 Tryz.isAgg24 Tryz.isAgg23
def absI (z : Int) : Int := max z (-z)
theorem absI_bd {z m : Int} (h1 : -m ≤ z) (h2 : z ≤ m) : 0 ≤ absI z ∧ absI z ≤ m := by
  unfold absI; rw [Int.max_def]
  split <;> omega
theorem tsize_any (z : Int) (w : World) (h1 : -2400000 ≤ z) (h2 : z ≤ 2400000) : Calls Tryz.prog 62 #[.int .i64 z] w fun e w' => e = .returned (.int .i64 (absI z)) ∧ Below w.heap.size w w' := by
  have HB : Sl (Below w.heap.size w w) := ⟨Below.refl _ _⟩; obtain ⟨a, ha⟩ : ∃ a, absI z = a := ⟨_, rfl⟩; rw [ha]; have hif : max z (-z) = a := ha; clear ha; go_enter Tryz.func62, Tryz.ntmps62; go_wp2_with fail; go_ret; exact ⟨rfl, HB.out⟩
theorem info_int : ∃ i : TypeInfo, Tryz.prog.info? 3 = some i ∧ i.zero = some (.int .i64 0) ∧ i.size = 1 ∧ i.bytes = 8 := by
  have h : (Tryz.prog.info? 3).isSome = true := (by kernel_rfl); obtain ⟨i, hi⟩ := Option.isSome_iff_exists.1 h; have h1 : (Tryz.prog.info? 3).bind (·.zero) = some (.int .i64 0) := (by kernel_rfl); have h2 : (Tryz.prog.info? 3).map (·.size) = some 1 := (by kernel_rfl); have h3 : (Tryz.prog.info? 3).map (·.bytes) = some 8 := (by kernel_rfl); rw [hi] at h1 h2 h3; exact ⟨i, hi, by simpa using h1, by simpa using h2, by simpa using h3⟩
theorem TV.xc_bd {t : TV} (h : t.chk nameS = 0) {w : World} (hT : PrT w) {p : Nat → Int} (hp : Pure p) (a b : Nat) : -1200000 ≤ t.xc p a b ∧ t.xc p a b ≤ 1200000 := by
  have ho := TV.tp_ok h; obtain ⟨h1, h2⟩ := ho.x_rng hp (a := 7 * a % 12) (b := 7 * (b % 12) % 12) (by omega) (by omega); have := cm_bd (ho.x_fits hp (by omega) (by omega)) h1 h2 hT; unfold TV.xc TV.X; omega
noncomputable def TV.w5 (t : TV) (j : Nat) : Int := absI (t.xc b32 j (j + 7))
noncomputable def TV.wl (t : TV) (most : Int) : Nat → List Int
  | 0 => []
  | k+1 => if most < t.w5 k then t.wl most k ++ [(k : Int)] else t.wl most k
noncomputable def TV.wc (t : TV) (most : Int) : Int := if t.chk nameS = 0 then (if most < 0 ∨ 1200000 < most then 2 else 0) else t.chk nameS
noncomputable def WoR (w w' : World) (e : Ending) (t : TV) (most : Int) : Prop :=
  (t.wc most ≠ 0 → e = .returned (.tuple #[.slice none 0 0, .int .i64 (t.wc most)])) ∧
  (t.wc most = 0 → ∃ v, e = .returned (.tuple #[v, .int .i64 0]) ∧ w'.ownsRow w.heap.size 3 1 v (t.wl most 12).length (ints (t.wl most 12)) ∧ ((t.wl most 12).length = 0 → v = .slice none 0 0))
set_option maxHeartbeats 6400000 in
set_option maxRecDepth 100000 in
theorem tWolves_any (t : TV) (hs : t.nm.size ≤ maxLen) (most : Int) {w0 : World} (hT0 : PrT w0) (w : World) (hT : PrT w) : Calls Tryz.prog 31 #[.agg t.cells, .int .i64 most] w fun e w' => WoR w w' e t most ∧ Below w.heap.size w w' := by
  have HB : Sl (Below w.heap.size w w) := ⟨Below.refl _ _⟩; have HT : Sl _ := ⟨hT⟩; have HCK : Sl (∀ W : World, Calls Tryz.prog 41 #[.agg t.cells] W fun e w' => e = .returned (.int .i64 (t.chk nameS)) ∧ Below W.heap.size W w') := ⟨fun W => tcheck_any t W hs⟩; clear hT hs hT0; obtain ⟨c, hc⟩ : ∃ c, t.chk nameS = c := ⟨_, rfl⟩; rw [hc] at HCK; have HC : Sl _ := ⟨hc⟩; clear hc; obtain ⟨i0, hi0, hz0, hz1, hz2⟩ := info_int; have HI : Sl _ := ⟨And.intro hi0 (And.intro hz0 (And.intro hz1 hz2))⟩; clear hi0 hz0 hz1 hz2; go_enter Tryz.func31, Tryz.ntmps31
  go_wp2_with ((with_reducible show wpList _ _ _ _ _ _); first
    | (refine wpList_box_new 2 rfl rfl 26 (.tmp 0) rfl t.cells rfl (box_temper t) ?_; rintro w1 gT zg zm zs zb; have ORD : Sl (w.heap.size ≤ gT) := ⟨by have := HB.out.size; omega⟩; replace HB := HB.v zm (by have := HB.out.size; have := ORD.out; omega); have XT : Sl (Blk w1 gT 26 t.cells) := ⟨zb⟩; clear zg zm zs zb)
    | (refine wpList_load_whole rfl 26 (.tmp 2) rfl gT rfl 26 t.cells _ XT.out Tryz.underlying26 rfl (size_temper t) ?_))
  by_cases h0 : c = 0
  · subst h0; refine (HCK.out _).mono ?_; rintro e w2 ⟨rfl, hb⟩; replace HB := HB.y hb; replace XT := XT.x hb; clear hb
    by_cases k0 : most < 0
    · have HWC : Sl (t.wc most = 2) := ⟨by unfold TV.wc; rw [if_pos HC.out, if_pos (Or.inl k0)]⟩; go_wp2_with fail; go_ret2; exact ⟨⟨fun _ => by rw [HWC.out]; rfl, fun h => absurd (HWC.out.symm.trans h) (by decide)⟩, HB.out⟩
    · skip
      by_cases k1 : 1200000 < most
      · have HWC : Sl (t.wc most = 2) := ⟨by unfold TV.wc; rw [if_pos HC.out, if_pos (Or.inr k1)]⟩; go_wp2_with fail; go_ret2; exact ⟨⟨fun _ => by rw [HWC.out]; rfl, fun h => absurd (HWC.out.symm.trans h) (by decide)⟩, HB.out⟩
      · skip; have HWC : Sl (t.wc most = 0) := ⟨by unfold TV.wc; rw [if_pos HC.out, if_neg (by omega)]⟩; have hm0 : 0 ≤ most := (by omega); have hm1 : most ≤ 1200000 := (by omega); have hd0 : decide (most < 0) = false := decide_eq_false k0; have hd1 : decide (1200000 < most) = false := decide_eq_false k1; clear k0 k1; have HLO : Sl (∀ (W : World), PrT W → Blk W gT 26 t.cells → Calls Tryz.prog 43 #[.pointer (some ⟨gT, 0, none⟩)] W fun e w' => e = .returned (.agg (flatR (t.N))) ∧ Below W.heap.size W w') := ⟨fun W h hB => notes_any t HC.out gT W h hB⟩; go_wp2_with fail; refine (HLO.out _ (HT.out.below HB.out) XT.out).mono ?_; rintro e w23 ⟨rfl, hb⟩; replace HB := HB.y hb; replace XT := XT.x hb; clear hb
        go_wp2_with ((with_reducible show wpList _ _ _ _ _ _); first
          | (refine wpList_alloc_new 7 rfl rfl 67 rfl (flatR fun _ => RVzero) alloc_twelve ?_; rintro w24 gL zg zm zs zb; replace ORD : Sl (w.heap.size ≤ gT ∧ gT < gL) := ⟨by have := HB.out.size; have := ORD.out; have := XT.out.lt; omega⟩; replace HB := HB.v zm (by have := HB.out.size; have := ORD.out; omega); replace XT := XT.w zm (by have := XT.out.lt; have := ORD.out; omega); have XL : Sl (Blk w24 gL 67 (flatR fun _ => RVzero)) := ⟨zb⟩; clear zg zm zs zb)
          | (refine wpList_store_whole rfl 67 (.tmp 7) (.tmp 21) rfl gL (flatR t.N) rfl rfl 67 (flatR fun _ => RVzero) XL.out (by rw [flatR_size, flatR_size]) (size_twelve _) (flatR_one _) ?_; rintro w25 zm zs zb; replace HB := HB.v zm (by have := HB.out.size; have := ORD.out; omega); replace XT := XT.w zm (by have := XT.out.lt; have := ORD.out; omega); replace XL : Sl (Blk w25 gL 67 (flatR t.N)) := ⟨zb⟩; clear zm zs zb))
        clear hd0 hd1; have HL : Sl (Below w25.heap.size w25 w25) := ⟨Below.refl _ _⟩; have XO : Sl (w25.ownsRow w25.heap.size 3 1 (.slice none 0 0) 0 (ints [])) := ⟨World.ownsRow_nil _ _ _ _⟩
        go_loopw [8, 22] (fun so sk wr => ∃ (k n : Nat) (L : List Int) (v5 : Value), k ≤ 12 ∧ sk = .int .i64 k ∧ v5 = so ∧ n ≤ k ∧ Sl (t.wl most k = L ∧ L.length = n) ∧ Sl (Below w25.heap.size w25 wr) ∧ Sl (wr.ownsRow w25.heap.size 3 1 v5 n (ints L)) ∧ Sl (n = 0 → v5 = .slice none 0 0)) (fun _ sk _ => 12 - (RowKit.intOf sk).toNat)
        case atStart => exact ⟨0, 0, [], _, by decide, rfl, rfl, Nat.le_refl _, ⟨rfl, rfl⟩, HL, XO, ⟨fun _ => rfl⟩⟩
        case round =>
          clear HL XO; obtain ⟨k, n, LL, v5, hk, rfl, rfl, hnk, HLL, HL, XO, HZ⟩ := hrel
          by_cases hk12 : k < 12
          · have hk1 : (0 : Int) ≤ (k : Int) := (by omega); have hk2 : (k : Int) < 12 := (by omega); obtain ⟨x, hx⟩ : ∃ x, t.xc b32 k (k + 7) = x := ⟨_, rfl⟩; obtain ⟨hx1, hx2⟩ := TV.xc_bd HC.out HT.out pure32 k (k + 7); rw [hx] at hx1 hx2; obtain ⟨a, ha⟩ : ∃ a, absI x = a := ⟨_, rfl⟩; have hif : max x (-x) = a := ha; have hw5 : t.w5 k = a := (by unfold TV.w5; rw [hx]; exact ha); have HW5 : Sl _ := ⟨hw5⟩
            have HEX : Sl (∀ W : World, PrT W → Blk W gL 67 (flatR t.N) → Calls Tryz.prog 60 #[.pointer (some ⟨gL, 0, none⟩), .int .i64 (k : Int)] W fun e w' => e = .returned (.int .i64 x) ∧ Below W.heap.size W w') := ⟨fun W h h2 => by
              have := fifth_any t HC.out gL k hk12 W h h2; rw [hx] at this
              exact this⟩
            have HSZ : Sl (∀ W : World, Calls Tryz.prog 62 #[.int .i64 x] W fun e w' => e = .returned (.int .i64 a) ∧ Below W.heap.size W w') := ⟨fun W => by
              have := tsize_any x W (by omega) (by omega); rw [ha] at this
              exact this⟩
            clear ha hw5 hx; have XL2 : Sl (Blk wr gL 67 (flatR t.N)) := ⟨XL.out.below HL.out XL.out.lt⟩; have HT2 : Sl (PrT wr) := ⟨(HT.out.below HB.out).below HL.out⟩; go_wp2_with fail; refine (HEX.out _ HT2.out XL2.out).mono ?_; rintro e wa ⟨rfl, hb⟩; replace HL : Sl (Below w25.heap.size w25 wa) := ⟨HL.out.trans (hb.mono HL.out.size)⟩; replace XO : Sl (wa.ownsRow w25.heap.size 3 1 v5 n (ints LL)) := ⟨own_mv XO.out (Mv.of_below hb) (fun zk hk => by have := (XO.out.lt zk hk).2; omega)⟩; replace XL2 := XL2.x hb; replace HT2 : Sl (PrT wa) := ⟨HT2.out.below hb⟩; clear hb; go_wp2_with fail; refine (HSZ.out _).mono ?_; rintro e wb ⟨rfl, hb⟩; replace HL : Sl (Below w25.heap.size w25 wb) := ⟨HL.out.trans (hb.mono HL.out.size)⟩; replace XO : Sl (wb.ownsRow w25.heap.size 3 1 v5 n (ints LL)) := ⟨own_mv XO.out (Mv.of_below hb) (fun zk hk => by have := (XO.out.lt zk hk).2; omega)⟩; replace XL2 := XL2.x hb; replace HT2 : Sl (PrT wb) := ⟨HT2.out.below hb⟩; clear hb
            by_cases hq : most < a
            · have hd : decide (most < a) = true := decide_eq_true hq; have HQ : Sl _ := ⟨hq⟩; clear hq
              go_wp2_with ((with_reducible show wpList _ _ _ _ _ _); first
                | (at_builtin; go_loud (refine wpList_append_any _ rfl (.tmp 30) (.tmp 32) _ rfl w25.heap.size 3 i0 _ 1 8 Tryz.underlying53 HI.out.1 HI.out.2.1 HI.out.2.2.1 HI.out.2.2.2 rfl (by decide) v5 n _ rfl (own_alloc XO.out _) _ (some ⟨wb.heap.size, 0, none⟩) 1 1 [.int .i64 (k : Int)] rfl (reads_i1 _ _ _) (by intro u hu; simp at hu; subst hu; rfl) (by unfold maxLen; omega) (by omega) (by have := HL.out.size; simp; omega) ?_); rintro v6 wN hown hg hat; have XQ : Sl (wN.ownsRow w25.heap.size 3 1 v6 (n + 1) (ints (LL ++ [(k : Int)]))) := ⟨by rw [ints_snoc]; exact hown⟩; have HLN : Sl (Below w25.heap.size w25 wN) := ⟨below_grown2 HL.out HL.out.size XO.out hg⟩; clear hown hg hat))
              exact ⟨⟨k + 1, n + 1, LL ++ [(k : Int)], v6, hk12, by go_num, rfl, by omega, ⟨by rw [TV.wl, HW5.out, if_pos (by have := HQ.out; omega), HLL.out.1], by rw [List.length_append, HLL.out.2]; rfl⟩, HLN, XQ, ⟨fun h => by omega⟩⟩, by simp [RowKit.intOf]; omega⟩
            · have hd : decide (most < a) = false := decide_eq_false hq; have HQ : Sl _ := ⟨hq⟩; clear hq; go_wp2_with fail; exact ⟨⟨k + 1, n, LL, _, hk12, by go_num, rfl, by omega, ⟨by rw [TV.wl, HW5.out, if_neg (by have := HQ.out; omega), HLL.out.1], HLL.out.2⟩, HL, XO, HZ⟩, by simp [RowKit.intOf]; omega⟩
          · obtain rfl : k = 12 := (by omega); clear hk12 hk; go_wp2_with fail; go_ret2; exact ⟨⟨fun h => absurd HWC.out h, fun _ => ⟨_, rfl, by rw [HLL.out.1, HLL.out.2]; exact own_base XO.out HB.out.size, fun h => HZ.out (by rw [← HLL.out.2, ← HLL.out.1]; exact h)⟩⟩, HB.out.trans (HL.out.mono HB.out.size)⟩
  · have HWC : Sl (t.wc most = c) := ⟨by unfold TV.wc; rw [HC.out, if_neg h0]⟩; refine (HCK.out _).mono ?_; rintro e w76 ⟨rfl, hb⟩; replace HB := HB.y hb; replace XT := XT.x hb; clear hb; have hz : ((c : Int) != 0) = true := (by rw [bne_iff_ne]; exact h0); go_wp2_with fail; go_ret2; exact ⟨⟨fun _ => by rw [HWC.out]; rfl, fun h => absurd (HWC.out.symm.trans h) h0⟩, HB.out⟩
end Go.Proofs.YtmcoadmnkelkkaaGreatDoor
namespace Go.Proofs.YtmcoadmnkelkkaaGreatDoor
set_option linter.unusedSimpArgs false
open Go.RowKit
set_option linter.unusedVariables false
def fl (f : Nat → Int) (n : Nat) : List Int := (List.range n).map f
theorem fl_at (f : Nat → Int) {n j : Nat} (hj : j < n) : (fl f n)[j]? = some (f j) := by
  unfold fl; rw [List.getElem?_map, List.getElem?_range hj]; rfl
theorem fl_ext {f g : Nat → Int} {n : Nat} (h : ∀ j, j < n → f j = g j) : fl f n = fl g n := by
  unfold fl; exact List.map_congr_left fun j hj => h j (List.mem_range.1 hj)
theorem fl_snoc (f : Nat → Int) (n : Nat) (x : Int) : ints (fl f n) ++ [.int .i64 x] = ints (fl (upd f n x) (n + 1)) := by
  rw [← ints_snoc]
  have e : fl (upd f n x) (n + 1) = fl (upd f n x) n ++ [x] := by
    unfold fl; rw [List.range_succ, List.map_append]; simp [upd]
  rw [e, fl_ext (f := upd f n x) (g := f) fun j hj => by unfold upd; rw [if_neg (by omega)]]
section
variable {w w' : World} {base g n cap : Nat} {e : TypeId} {v : Value} {f : Nat → Int}
theorem own_ib (h : w.ownsRow base e 1 v n (ints (fl f n))) (hn : 0 < n) : ∃ g cap, v = .slice (some ⟨g, 0, none⟩) n cap ∧ base ≤ g ∧ IB w g n f := by
  obtain ⟨g, cap, e1, hb, h1⟩ := IB.of_own h hn; exact ⟨g, cap, e1, hb, h1.congr fun j hj => by rw [fl_at f hj]; rfl⟩
end
end Go.Proofs.YtmcoadmnkelkkaaGreatDoor
namespace Go.Proofs.YtmcoadmnkelkkaaGreatDoor
set_option linter.unusedSimpArgs false
open Go.RowKit
set_option linter.unusedVariables false
section
variable {P : Program} {ops : Array Oper} {Q : Exit → Act → World → Prop} {md : Region.Mode} {S : World → Prop}
theorem wpAnyH_cellg (i : Nat) {oi : Oper} {fuel : Nat} {listed : Array Bool} {a : Act} {w : World} {v : Value} (hi0 : ops.toList[i]? = some oi) (hg : Region.wanted oi (yielded ops a.tmps) = true)
    (hy : ∀ w, S w → (execOp a.eval oi).run P w = .ok (.value v) w)
    (hs : Region.noSelect ops = true) (hf : Region.free md ops listed i = true) (hr : (Region.ready md ops listed).contains i = true)
    (hQ : ∀ c a w, Q (.panic c) (a.put oi.dst v) w → Q (.panic c) a w) (hS : S w)
    (h : wpAnyH P md ops Q S fuel (listed.setIfInBounds i true) (a.put oi.dst v) w) : wpAnyH P md ops Q S (fuel + 1) listed a w :=
  have hi : ops[i]? = some oi := (by rw [← Array.getElem?_toList]; exact hi0)
  wpAnyH_take hi hs hf hr hQ (.inl ⟨hg, hy⟩) hS h
theorem wpAnyH_pureg (i : Nat) {oi : Oper} {v : Value} {fuel : Nat} {listed : Array Bool} {a : Act} {w : World} (hi0 : ops.toList[i]? = some oi)
    (hs : Region.noSelect ops = true) (hf : Region.free md ops listed i = true) (hr : (Region.ready md ops listed).contains i = true)
    (hQ : ∀ c a w, Q (.panic c) (a.put oi.dst v) w → Q (.panic c) a w) (hg : Region.wanted oi (yielded ops a.tmps) = true) (hy : ∀ w, (execOp a.eval oi).run P w = .ok (.value v) w) (hS : S w)
    (h : wpAnyH P md ops Q S fuel (listed.setIfInBounds i true) (a.put oi.dst v) w) : wpAnyH P md ops Q S (fuel + 1) listed a w :=
  have hi : ops[i]? = some oi := (by rw [← Array.getElem?_toList]; exact hi0)
  wpAnyH_take hi hs hf hr hQ (.inl ⟨hg, fun w _ => hy w⟩) hS h
theorem wpAnyH_no (i : Nat) {oi : Oper} {fuel : Nat} {listed : Array Bool} {a : Act} {w : World} (hi0 : ops.toList[i]? = some oi)
    (hs : Region.noSelect ops = true) (hf : Region.free md ops listed i = true) (hr : (Region.ready md ops listed).contains i = true)
    (hQ : ∀ c a w, Q (.panic c) (a.put oi.dst undef) w → Q (.panic c) a w) (hg : Region.wanted oi (yielded ops a.tmps) = false) (hS : S w)
    (h : wpAnyH P md ops Q S fuel (listed.setIfInBounds i true) (a.put oi.dst undef) w) : wpAnyH P md ops Q S (fuel + 1) listed a w :=
  have hi : ops[i]? = some oi := (by rw [← Array.getElem?_toList]; exact hi0)
  wpAnyH_take hi hs hf hr hQ (.inr ⟨hg, rfl⟩) hS h
end
end Go.Proofs.YtmcoadmnkelkkaaGreatDoor
namespace Go.Proofs.YtmcoadmnkelkkaaGreatDoor
set_option linter.unusedSimpArgs false
open Go.RowKit
set_option linter.unusedVariables false
def cmpI (x y : Int) : Int := if x < y then -1 else if y < x then 1 else 0
theorem cmpI_neg (x y : Int) : cmpI x y < 0 ↔ x < y := by
  unfold cmpI
  split
  · constructor
    · intro _; assumption
    · intro _; decide
  · split
    · constructor
      · intro h; exact absurd h (by decide)
      · intro h; omega
    · constructor
      · intro h; exact absurd h (by decide)
      · intro h; omega
theorem isnan_any (x : Int) (w : World) : Calls Tryz.prog 97 #[.int .i64 x] w fun e w' => e = .returned (.bool false) ∧ Below w.heap.size w w' := by
  have HB : Sl (Below w.heap.size w w) := ⟨Below.refl _ _⟩; go_enter Tryz.func97, Tryz.ntmps97; go_wp2_with fail; go_ret; exact ⟨rfl, HB.out⟩
set_option maxHeartbeats 6400000 in
set_option maxRecDepth 100000 in
theorem comp_any (x y : Int) (w : World) : Calls Tryz.prog 65 #[.int .i64 x, .int .i64 y] w fun e w' => e = .returned (.int .i64 (cmpI x y)) ∧ Below w.heap.size w w' := by
  have HB : Sl (Below w.heap.size w w) := ⟨Below.refl _ _⟩; obtain ⟨c, hc⟩ : ∃ c, cmpI x y = c := ⟨_, rfl⟩; rw [hc]; have HC : Sl _ := ⟨hc⟩; clear hc
  by_cases h : x < y
  · skip; have hd : decide (x < y) = true := decide_eq_true h; have HV : Sl (c = -1) := ⟨by rw [← HC.out]; unfold cmpI; rw [if_pos h]⟩; go_enter Tryz.func65, Tryz.ntmps65; go_wp2_with fail; refine (isnan_any x _).mono ?_; rintro e w1 ⟨rfl, hb⟩; replace HB := HB.y hb; clear hb; go_wp2_with fail; refine (isnan_any y _).mono ?_; rintro e w2 ⟨rfl, hb⟩; replace HB := HB.y hb; clear hb; go_wp2_with fail; go_ret; exact ⟨by rw [HV.out]; rfl, HB.out⟩
  · by_cases h2 : y < x
    · skip; have hd : decide (x < y) = false := decide_eq_false h; have hd2 : decide (y < x) = true := decide_eq_true h2; have HV : Sl (c = 1) := ⟨by rw [← HC.out]; unfold cmpI; rw [if_neg h, if_pos h2]⟩; go_enter Tryz.func65, Tryz.ntmps65; go_wp2_with fail; refine (isnan_any x _).mono ?_; rintro e w13 ⟨rfl, hb⟩; replace HB := HB.y hb; clear hb; go_wp2_with fail; refine (isnan_any y _).mono ?_; rintro e w14 ⟨rfl, hb⟩; replace HB := HB.y hb; clear hb; go_wp2_with fail; go_ret; exact ⟨by rw [HV.out]; rfl, HB.out⟩
    · skip; have hd : decide (x < y) = false := decide_eq_false h; have hd2 : decide (y < x) = false := decide_eq_false h2; have HV : Sl (c = 0) := ⟨by rw [← HC.out]; unfold cmpI; rw [if_neg h, if_neg h2]⟩; go_enter Tryz.func65, Tryz.ntmps65; go_wp2_with fail; refine (isnan_any x _).mono ?_; rintro e w25 ⟨rfl, hb⟩; replace HB := HB.y hb; clear hb; go_wp2_with fail; refine (isnan_any y _).mono ?_; rintro e w26 ⟨rfl, hb⟩; replace HB := HB.y hb; clear hb; go_wp2_with fail; go_ret; exact ⟨by rw [HV.out]; rfl, HB.out⟩
set_option maxHeartbeats 6400000 in
set_option maxRecDepth 100000 in
theorem keyc_any (κ : Nat → Int) (gS a b : Nat) (ha : a < 12) (hb : b < 12) (w : World) (hB : IB w gS 12 κ) : Calls Tryz.prog 64 #[.int .i64 (a : Int), .int .i64 (b : Int), .pointer (some ⟨gS, 0, none⟩)] w fun e w' => e = .returned (.int .i64 (cmpI (κ a) (κ b))) ∧ Below w.heap.size w w' := by
  have HB : Sl (Below w.heap.size w w) := ⟨Below.refl _ _⟩; have XS : Sl (IB w gS 12 κ) := ⟨hB⟩; have ORD : Sl (gS < w.heap.size) := ⟨hB.lt⟩; clear hB; obtain ⟨x, hx⟩ : ∃ x, κ a = x := ⟨_, rfl⟩; obtain ⟨y, hy⟩ : ∃ x, κ b = x := ⟨_, rfl⟩; rw [hx, hy]; have HX : Sl _ := ⟨And.intro hx hy⟩; clear hx hy; have ha0 : (0 : Int) ≤ (a : Int) := (by omega); have ha1 : (a : Int) < 12 := (by omega); have hb0 : (0 : Int) ≤ (b : Int) := (by omega); have hb1 : (b : Int) < 12 := (by omega); go_enter Tryz.func64, Tryz.ntmps64; go_wp2_with fail; have hm : Mv w.heap.size w w.drew := Mv.drew _ _; have hs : RowKit.Below w.heap.size w w.drew := below_drewN (Below.refl _ _) 1; have HSW : Sl _ := ⟨hs⟩; clear hs; refine wp_region_held_drew (S := fun w' => Mv w.heap.size w w') (by kernel_rfl) hm (fun hHeld => ?_); clear hm; refine wpAnyH_pure 0 (v := .int .i64 (a : Int)) rfl (by kernel_rfl) (by kernel_rfl) (by kernel_rfl) (fun _ _ _ h => h) rfl (fun _ => rfl) (by assumption) ?_; simp only [Act.put, sS0, sS1, sS2]; refine wpAnyH_pure 1 (v := .pointer (some ⟨gS, a, none⟩)) rfl (by kernel_rfl) (by kernel_rfl) (by kernel_rfl) (fun _ _ _ h => h) rfl (fun _ => by go_simp) (by assumption) ?_; simp only [Act.put, sS0, sS1, sS2]
  refine wpAnyH_cell 2 (v := .int .i64 x) rfl rfl (fun w' h => by
    have e := (XS.out.mv h (by have := XS.out.lt; omega)).cell ha; rw [HX.out.1] at e
    go_simp) (by kernel_rfl) (by kernel_rfl) (by kernel_rfl) (fun _ _ _ h => h) (by assumption) ?_
  simp only [Act.put, sS0, sS1, sS2]; refine wpAnyH_pure 3 (v := .int .i64 (b : Int)) rfl (by kernel_rfl) (by kernel_rfl) (by kernel_rfl) (fun _ _ _ h => h) rfl (fun _ => rfl) (by assumption) ?_; simp only [Act.put, sS0, sS1, sS2]; refine wpAnyH_pure 4 (v := .pointer (some ⟨gS, b, none⟩)) rfl (by kernel_rfl) (by kernel_rfl) (by kernel_rfl) (fun _ _ _ h => h) rfl (fun _ => by go_simp) (by assumption) ?_; simp only [Act.put, sS0, sS1, sS2]
  refine wpAnyH_cell 5 (v := .int .i64 y) rfl rfl (fun w' h => by
    have e := (XS.out.mv h (by have := XS.out.lt; omega)).cell hb; rw [HX.out.2] at e
    go_simp) (by kernel_rfl) (by kernel_rfl) (by kernel_rfl) (fun _ _ _ h => h) (by assumption) ?_
  simp only [Act.put, sS0, sS1, sS2]; refine wpAnyH_one 6 rfl (by kernel_rfl) rfl (fun K hK => ?_); go_simp; go_at_call 65
  (with_reducible refine (comp_any x y _).mono ?_)
  rintro e z1 ⟨rfl, hb⟩; replace HSW := HSW.y hb; refine hK.out _ _ (Mv.below HSW.out) (fun hHeld => ?_); clear hK K hb
  (try simp only [Act.put, sS0, sS1, sS2])
  refine wpAnyH_pure 7 (v := .int .i64 (cmpI x y)) rfl (by kernel_rfl) (by kernel_rfl) (by kernel_rfl) (fun _ _ _ h => h) rfl (fun _ => rfl) (by assumption) ?_; simp only [Act.put, sS0, sS1, sS2]; refine wpAnyH_done (by kernel_rfl) ?_ _; replace HB := HB.y HSW.out; replace XS := XS.xi HSW.out; clear HSW; (try clear hHeld); go_wp2_with fail; go_ret; exact ⟨rfl, HB.out⟩
def keyZ (κ : Nat → Int) (z : Int) : Int := κ z.toNat
set_option maxHeartbeats 6400000 in
set_option maxRecDepth 100000 in
theorem isort_any (κ : Nat → Int) (gS gD n cap : Nat) (f : Nat → Int) (w : World) (hn0 : 1 ≤ n) (hn : n ≤ 12) (hf : ∀ j, j < n → 0 ≤ f j ∧ f j < 12) (hS : IB w gS 12 κ) (hD : IB w gD n f) (hne : gS ≠ gD) :
    Calls Tryz.prog 124 #[.slice (some ⟨gD, 0, none⟩) n cap, .int .i64 0, .int .i64 (n : Int), .func (.func 64) #[] #[.pointer (some ⟨gS, 0, none⟩)]] w fun e w' => e = .returned (.tuple #[]) ∧ Mv gD w w' ∧ IB w' gD n (sorty (keyZ κ) f (n - 1)) := by
  have HF : Sl _ := ⟨hf⟩; have XS : Sl (IB w gS 12 κ) := ⟨hS⟩; have XD : Sl (IB w gD n f) := ⟨hD⟩; have HNE : Sl (gS ≠ gD) := ⟨hne⟩; have HM : Sl (Mv gD w w) := ⟨Mv.refl _ _⟩; clear hf hS hD hne; have hrun : ∀ (args : Array Value) (w : World), (callFunc 64 args).run Tryz.prog w = .ok (.enter 64 args) w := fun a w => by go_simp
  go_enter Tryz.func124, Tryz.ntmps124; go_wp2_with fail
  go_loopw [8] (fun s8 wr => ∃ m : Nat, m + 1 ≤ n ∧ s8 = .int .i64 ((m : Int) + 1) ∧ Sl (Mv gD w wr) ∧ Sl (IB wr gD n (sorty (keyZ κ) f m))) (fun s8 _ => n - (RowKit.intOf s8).toNat)
  case atStart => exact ⟨0, hn0, rfl, HM, XD⟩
  case round =>
    clear HM XD; obtain ⟨m, hm, rfl, HM, XD⟩ := hrel; replace XS : Sl (IB wr gS 12 κ) := ⟨XS.out.mv HM.out HNE.out⟩; have hn2 : (n : Int) ≤ 12 := (by omega)
    by_cases hmn : m + 1 < n
    · have hm1 : (m : Int) + 1 < (n : Int) := (by omega); have hm0 : (0 : Int) ≤ (m : Int) := (by omega)
      have HIN : Sl (∀ i, i < n → 0 ≤ sorty (keyZ κ) f m i ∧ sorty (keyZ κ) f m i < 12) := ⟨fun i hi => by
        by_cases him : i ≤ m
        · exact sorty_in _ f m (fun i hi => HF.out i (by omega)) i him
        · rw [sorty_far _ f m i (by omega)]
          exact HF.out i hi⟩
      go_wp2_with fail; generalize wr = wo at *
      obtain ⟨G, hG⟩ : ∃ G, sorty (keyZ κ) f m = G := ⟨_, rfl⟩; have hT : sorty (keyZ κ) f (m + 1) = sink (keyZ κ) (m + 1) G := (by rw [← hG]; rfl); rw [hG] at XD HIN; have HT : Sl _ := ⟨hT⟩; clear hG hT; have HM0 := HM
      go_loopw [9] (fun s9 wq => ∃ (j : Nat) (g : Nat → Int), j ≤ m + 1 ∧ s9 = .int .i64 (j : Int) ∧ Sl (Mv gD wo wq) ∧ Sl (IB wq gD n g) ∧ Sl (∀ i, i < n → 0 ≤ g i ∧ g i < 12) ∧ Sl (sink (keyZ κ) (m + 1) G = sink (keyZ κ) j g)) (fun s9 _ => (RowKit.intOf s9).toNat)
      case atStart => exact ⟨m + 1, G, Nat.le_refl _, by go_num, ⟨Mv.refl _ _⟩, XD, HIN, ⟨rfl⟩⟩
      case round =>
        clear XD HIN HM; obtain ⟨j, g, hj, rfl, HM, XD, HIN, HSK⟩ := hrel; have XS2 := XS; replace XS : Sl (IB wr gS 12 κ) := ⟨XS2.out.mv HM.out HNE.out⟩
        by_cases hj0 : j = 0
        · subst hj0; have XDF : Sl (IB wr gD n (sink (keyZ κ) 0 g)) := XD; have HB : Sl (Below wr.heap.size wr wr) := ⟨Below.refl _ _⟩; go_wp2_with fail; have hm : Mv wr.heap.size wr wr.drew := Mv.drew _ _; have hs : RowKit.Below wr.heap.size wr wr.drew := below_drewN (Below.refl _ _) 1; have HSW : Sl _ := ⟨hs⟩; clear hs; refine wp_region_held_drew (S := fun w' => Mv wr.heap.size wr w') (by kernel_rfl) hm (fun hHeld => ?_); clear hm; refine wpAnyH_pure 0 (v := .int .i64 0) rfl (by kernel_rfl) (by kernel_rfl) (by kernel_rfl) (fun _ _ _ h => h) rfl (fun _ => rfl) (by assumption) ?_; simp only [Act.put, sS0, sS1, sS2]; refine wpAnyH_pure 1 (v := .int .i64 0) rfl (by kernel_rfl) (by kernel_rfl) (by kernel_rfl) (fun _ _ _ h => h) rfl (fun _ => rfl) (by assumption) ?_; simp only [Act.put, sS0, sS1, sS2]; refine wpAnyH_pure 2 (v := .bool false) rfl (by kernel_rfl) (by kernel_rfl) (by kernel_rfl) (fun _ _ _ h => h) rfl (fun _ => by go_simp) (by assumption) ?_; simp only [Act.put, sS0, sS1, sS2]; refine wpAnyH_pure 3 (v := .bool false) rfl (by kernel_rfl) (by kernel_rfl) (by kernel_rfl) (fun _ _ _ h => h) rfl (fun _ => rfl) (by assumption) ?_; simp only [Act.put, sS0, sS1, sS2]; refine wpAnyH_no 4 rfl (by kernel_rfl) (by kernel_rfl) (by kernel_rfl) (fun _ _ _ h => h) (by rfl) (by assumption) ?_; simp only [Act.put, sS0, sS1, sS2]; refine wpAnyH_no 5 rfl (by kernel_rfl) (by kernel_rfl) (by kernel_rfl) (fun _ _ _ h => h) (by rfl) (by assumption) ?_; simp only [Act.put, sS0, sS1, sS2]; refine wpAnyH_no 6 rfl (by kernel_rfl) (by kernel_rfl) (by kernel_rfl) (fun _ _ _ h => h) (by rfl) (by assumption) ?_; simp only [Act.put, sS0, sS1, sS2]; refine wpAnyH_no 7 rfl (by kernel_rfl) (by kernel_rfl) (by kernel_rfl) (fun _ _ _ h => h) (by rfl) (by assumption) ?_; simp only [Act.put, sS0, sS1, sS2]; refine wpAnyH_no 8 rfl (by kernel_rfl) (by kernel_rfl) (by kernel_rfl) (fun _ _ _ h => h) (by rfl) (by assumption) ?_; simp only [Act.put, sS0, sS1, sS2]; refine wpAnyH_no 9 rfl (by kernel_rfl) (by kernel_rfl) (by kernel_rfl) (fun _ _ _ h => h) (by rfl) (by assumption) ?_; simp only [Act.put, sS0, sS1, sS2]; refine wpAnyH_no 10 rfl (by kernel_rfl) (by kernel_rfl) (by kernel_rfl) (fun _ _ _ h => h) (by rfl) (by assumption) ?_; simp only [Act.put, sS0, sS1, sS2]; refine wpAnyH_no 11 rfl (by kernel_rfl) (by kernel_rfl) (by kernel_rfl) (fun _ _ _ h => h) (by rfl) (by assumption) ?_; simp only [Act.put, sS0, sS1, sS2]; refine wpAnyH_no 12 rfl (by kernel_rfl) (by kernel_rfl) (by kernel_rfl) (fun _ _ _ h => h) (by rfl) (by assumption) ?_; simp only [Act.put, sS0, sS1, sS2]; refine wpAnyH_no 13 rfl (by kernel_rfl) (by kernel_rfl) (by kernel_rfl) (fun _ _ _ h => h) (by rfl) (by assumption) ?_; simp only [Act.put, sS0, sS1, sS2]; refine wpAnyH_no 14 rfl (by kernel_rfl) (by kernel_rfl) (by kernel_rfl) (fun _ _ _ h => h) (by rfl) (by assumption) ?_; simp only [Act.put, sS0, sS1, sS2]
          refine wpAnyH_no 15 rfl (by kernel_rfl) (by kernel_rfl) (by kernel_rfl) (fun _ _ _ h => h) (by rfl) (by assumption) ?_; simp only [Act.put, sS0, sS1, sS2]; refine wpAnyH_pure 16 (v := .bool false) rfl (by kernel_rfl) (by kernel_rfl) (by kernel_rfl) (fun _ _ _ h => h) rfl (fun _ => by go_simp) (by assumption) ?_; simp only [Act.put, sS0, sS1, sS2]; refine wpAnyH_done (by kernel_rfl) ?_ _; replace HB : Sl (Below wr.heap.size wr wr.drew) := ⟨HB.out.trans (HSW.out.mono HB.out.size)⟩; clear HSW; (try clear hHeld); replace HM : Sl (Mv gD wo wr.drew) := ⟨Mv.trans HM.out (Mv.below HB.out)⟩; replace XDF : Sl (IB wr.drew gD n _) := ⟨XDF.out.below HB.out XDF.out.lt⟩; go_wp2_with fail; exact ⟨⟨m + 1, hmn, by go_num, ⟨Mv.trans HM0.out HM.out⟩, ⟨by rw [HT.out, HSK.out]; exact XDF.out⟩⟩, by simp [RowKit.intOf]; omega⟩
        · obtain ⟨i, hi⟩ : ∃ i, j = i + 1 := ⟨j - 1, by omega⟩; have hij : (j : Int) - 1 = (i : Int) := (by omega); have hjn : j < n := (by omega); have hin : i < n := (by omega); have hj1 : (0 : Int) < (j : Int) := (by omega); have hj2 : (j : Int) < (n : Int) := (by omega); have hj3 : (0 : Int) ≤ (j : Int) := (by omega); have hi1 : (0 : Int) ≤ (i : Int) := (by omega); have hi2 : (i : Int) < (n : Int) := (by omega); have hi3 : (i : Int) < 12 := (by omega); have hj4 : 0 < j := (by omega); have hwi : IntKind.i64.wrap (i : Int) = (i : Int) := (by rw [IntKind.wrap_i64]; omega); obtain ⟨hx0, hx1⟩ := HIN.out j hjn; obtain ⟨hy0, hy1⟩ := HIN.out i hin; obtain ⟨x, hx⟩ : ∃ x : Nat, g j = (x : Int) := ⟨(g j).toNat, by omega⟩; obtain ⟨y, hy⟩ : ∃ y : Nat, g i = (y : Int) := ⟨(g i).toNat, by omega⟩; rw [hx] at hx1; rw [hy] at hy1; have hx12 : x < 12 := (by omega); have hy12 : y < 12 := (by omega); have hc := cmpI_neg (κ x) (κ y); have HXY : Sl _ := ⟨And.intro hx hy⟩; have HIJ : Sl _ := ⟨hi⟩
          have HSI : Sl (sink (keyZ κ) j g = if κ x < κ y then sink (keyZ κ) i (upd (upd g j (y : Int)) i (x : Int)) else g) := ⟨by
            rw [hi, sink, ← hi, hx, hy]
            rfl⟩
          have HCC : Sl _ := ⟨hc⟩; clear hx hy hx0 hy0 hx1 hy1 hi hc hj0; obtain ⟨c, hc⟩ : ∃ c, cmpI (κ x) (κ y) = c := ⟨_, rfl⟩
          have HKC : Sl (∀ W : World, IB W gS 12 κ → Calls Tryz.prog 64 #[.int .i64 (x : Int), .int .i64 (y : Int), .pointer (some ⟨gS, 0, none⟩)] W fun e w' => e = .returned (.int .i64 c) ∧ Below W.heap.size W w') := ⟨fun W h => by
            have := keyc_any κ gS x y hx12 hy12 W h; rw [hc] at this
            exact this⟩
          have hcs := HCC.out; rw [hc] at hcs; have HCS : Sl _ := ⟨hcs⟩; clear hc hcs
          by_cases hlt : κ x < κ y
          · have hcd : decide (c < 0) = true := decide_eq_true (HCS.out.2 hlt); have hsk := HSI.out; rw [if_pos hlt] at hsk; have HSN : Sl _ := ⟨hsk⟩; clear hsk hlt; have HB : Sl (Below wr.heap.size wr wr) := ⟨Below.refl _ _⟩; go_wp2_with fail; have hm : Mv wr.heap.size wr wr.drew := Mv.drew _ _; have hs : RowKit.Below wr.heap.size wr wr.drew := below_drewN (Below.refl _ _) 1; have HSW : Sl _ := ⟨hs⟩; clear hs; refine wp_region_held_drew (S := fun w' => Mv wr.heap.size wr w') (by kernel_rfl) hm (fun hHeld => ?_); clear hm; refine wpAnyH_pure 0 (v := .int .i64 (j : Int)) rfl (by kernel_rfl) (by kernel_rfl) (by kernel_rfl) (fun _ _ _ h => h) rfl (fun _ => rfl) (by assumption) ?_; simp only [Act.put, sS0, sS1, sS2]; refine wpAnyH_pure 1 (v := .int .i64 0) rfl (by kernel_rfl) (by kernel_rfl) (by kernel_rfl) (fun _ _ _ h => h) rfl (fun _ => rfl) (by assumption) ?_; simp only [Act.put, sS0, sS1, sS2]; refine wpAnyH_pure 2 (v := .bool true) rfl (by kernel_rfl) (by kernel_rfl) (by kernel_rfl) (fun _ _ _ h => h) rfl (fun _ => by go_simp) (by assumption) ?_; simp only [Act.put, sS0, sS1, sS2]; refine wpAnyH_pure 3 (v := .bool true) rfl (by kernel_rfl) (by kernel_rfl) (by kernel_rfl) (fun _ _ _ h => h) rfl (fun _ => rfl) (by assumption) ?_; simp only [Act.put, sS0, sS1, sS2]; refine wpAnyH_pureg 4 (v := .func (.func 64) #[] #[.pointer (some ⟨gS, 0, none⟩)]) rfl (by kernel_rfl) (by kernel_rfl) (by kernel_rfl) (fun _ _ _ h => h) (by rfl) (fun _ => rfl) (by assumption) ?_; simp only [Act.put, sS0, sS1, sS2]; refine wpAnyH_pureg 5 (v := .slice (some ⟨gD, 0, none⟩) n cap) rfl (by kernel_rfl) (by kernel_rfl) (by kernel_rfl) (fun _ _ _ h => h) (by rfl) (fun _ => rfl) (by assumption) ?_; simp only [Act.put, sS0, sS1, sS2]; refine wpAnyH_pureg 6 (v := .int .i64 (j : Int)) rfl (by kernel_rfl) (by kernel_rfl) (by kernel_rfl) (fun _ _ _ h => h) (by rfl) (fun _ => rfl) (by assumption) ?_; simp only [Act.put, sS0, sS1, sS2]; refine wpAnyH_pureg 7 (v := .pointer (some ⟨gD, j, none⟩)) rfl (by kernel_rfl) (by kernel_rfl) (by kernel_rfl) (fun _ _ _ h => h) (by rfl) (fun _ => by go_simp) (by assumption) ?_; simp only [Act.put, sS0, sS1, sS2]
            refine wpAnyH_cellg 8 (v := .int .i64 (x : Int)) rfl (by rfl) (fun w' h => by
              have e := (XD.out.mv h (by have := XD.out.lt; omega)).cell hjn; rw [HXY.out.1] at e
              go_simp) (by kernel_rfl) (by kernel_rfl) (by kernel_rfl) (fun _ _ _ h => h) (by assumption) ?_
            simp only [Act.put, sS0, sS1, sS2]; refine wpAnyH_pureg 9 (v := .slice (some ⟨gD, 0, none⟩) n cap) rfl (by kernel_rfl) (by kernel_rfl) (by kernel_rfl) (fun _ _ _ h => h) (by rfl) (fun _ => rfl) (by assumption) ?_; simp only [Act.put, sS0, sS1, sS2]; refine wpAnyH_pureg 10 (v := .int .i64 (j : Int)) rfl (by kernel_rfl) (by kernel_rfl) (by kernel_rfl) (fun _ _ _ h => h) (by rfl) (fun _ => rfl) (by assumption) ?_; simp only [Act.put, sS0, sS1, sS2]; refine wpAnyH_pureg 11 (v := .int .i64 (i : Int)) rfl (by kernel_rfl) (by kernel_rfl) (by kernel_rfl) (fun _ _ _ h => h) (by rfl) (fun _ => by go_simp) (by assumption) ?_; simp only [Act.put, sS0, sS1, sS2]; refine wpAnyH_pureg 12 (v := .pointer (some ⟨gD, i, none⟩)) rfl (by kernel_rfl) (by kernel_rfl) (by kernel_rfl) (fun _ _ _ h => h) (by rfl) (fun _ => by go_simp) (by assumption) ?_; simp only [Act.put, sS0, sS1, sS2]
            refine wpAnyH_cellg 13 (v := .int .i64 (y : Int)) rfl (by rfl) (fun w' h => by
              have e := (XD.out.mv h (by have := XD.out.lt; omega)).cell hin; rw [HXY.out.2] at e
              go_simp) (by kernel_rfl) (by kernel_rfl) (by kernel_rfl) (fun _ _ _ h => h) (by assumption) ?_
            simp only [Act.put, sS0, sS1, sS2]; refine wpAnyH_onew 14 rfl (by kernel_rfl) (by rfl) (fun K hK => ?_); go_simp; go_at_call 64
            (with_reducible refine (HKC.out _ (XS.out.below HSW.out XS.out.lt)).mono ?_)
            rintro e z12 ⟨rfl, hb⟩; replace HSW := HSW.y hb; refine hK.out _ _ (Mv.below HSW.out) (fun hHeld => ?_); clear hK K hb
            (try simp only [Act.put, sS0, sS1, sS2])
            refine wpAnyH_pureg 15 (v := .bool true) rfl (by kernel_rfl) (by kernel_rfl) (by kernel_rfl) (fun _ _ _ h => h) (by rfl) (fun _ => by go_simp) (by assumption) ?_; simp only [Act.put, sS0, sS1, sS2]; refine wpAnyH_pure 16 (v := .bool true) rfl (by kernel_rfl) (by kernel_rfl) (by kernel_rfl) (fun _ _ _ h => h) rfl (fun _ => by go_simp) (by assumption) ?_; simp only [Act.put, sS0, sS1, sS2]; refine wpAnyH_done (by kernel_rfl) ?_ _; replace HB : Sl (Below wr.heap.size wr z12) := ⟨HB.out.trans (HSW.out.mono HB.out.size)⟩; replace XS := XS.xi HSW.out; replace XD := XD.xi HSW.out; clear HSW; (try clear hHeld); replace HM : Sl (Mv gD wo z12) := ⟨Mv.trans HM.out (Mv.below HB.out)⟩; clear hcd; go_wp2_with fail; have cj := XD.out.cell hjn; have ci := XD.out.cell hin; rw [HXY.out.1] at cj; rw [HXY.out.2] at ci; have fj := XD.out.frozen j; have fi := XD.out.frozen i
            go_region
            go_wp2_with fail; have hmv := Mv.trans (Mv.trans HM.out (Mv.trans (Mv.setc z12 gD j (.int .i64 (y : Int))) (Mv.setc _ gD i (.int .i64 (x : Int))))) (Mv.drew _ _); have hxd := (XD.out.setc j (y : Int)).setc i (x : Int)
            exact ⟨⟨i, upd (upd g j (y : Int)) i (x : Int), by omega, rfl, ⟨hmv⟩, ⟨hxd⟩, ⟨fun l hl => by
              unfold upd
              split
              · omega
              · split
                · omega
                · exact HIN.out l hl⟩, ⟨HSK.out.trans HSN.out⟩⟩, by simp [RowKit.intOf]; omega⟩
          · have hcd : decide (c < 0) = false := decide_eq_false (fun h => hlt (HCS.out.1 h)); have hsk := HSI.out; rw [if_neg hlt] at hsk; have XDF : Sl (IB wr gD n (sink (keyZ κ) j g)) := ⟨by rw [hsk]; exact XD.out⟩; clear hsk hlt; have HB : Sl (Below wr.heap.size wr wr) := ⟨Below.refl _ _⟩; go_wp2_with fail; have hm : Mv wr.heap.size wr wr.drew := Mv.drew _ _; have hs : RowKit.Below wr.heap.size wr wr.drew := below_drewN (Below.refl _ _) 1; have HSW : Sl _ := ⟨hs⟩; clear hs; refine wp_region_held_drew (S := fun w' => Mv wr.heap.size wr w') (by kernel_rfl) hm (fun hHeld => ?_); clear hm; refine wpAnyH_pure 0 (v := .int .i64 (j : Int)) rfl (by kernel_rfl) (by kernel_rfl) (by kernel_rfl) (fun _ _ _ h => h) rfl (fun _ => rfl) (by assumption) ?_; simp only [Act.put, sS0, sS1, sS2]; refine wpAnyH_pure 1 (v := .int .i64 0) rfl (by kernel_rfl) (by kernel_rfl) (by kernel_rfl) (fun _ _ _ h => h) rfl (fun _ => rfl) (by assumption) ?_; simp only [Act.put, sS0, sS1, sS2]; refine wpAnyH_pure 2 (v := .bool true) rfl (by kernel_rfl) (by kernel_rfl) (by kernel_rfl) (fun _ _ _ h => h) rfl (fun _ => by go_simp) (by assumption) ?_; simp only [Act.put, sS0, sS1, sS2]; refine wpAnyH_pure 3 (v := .bool true) rfl (by kernel_rfl) (by kernel_rfl) (by kernel_rfl) (fun _ _ _ h => h) rfl (fun _ => rfl) (by assumption) ?_; simp only [Act.put, sS0, sS1, sS2]; refine wpAnyH_pureg 4 (v := .func (.func 64) #[] #[.pointer (some ⟨gS, 0, none⟩)]) rfl (by kernel_rfl) (by kernel_rfl) (by kernel_rfl) (fun _ _ _ h => h) (by rfl) (fun _ => rfl) (by assumption) ?_; simp only [Act.put, sS0, sS1, sS2]; refine wpAnyH_pureg 5 (v := .slice (some ⟨gD, 0, none⟩) n cap) rfl (by kernel_rfl) (by kernel_rfl) (by kernel_rfl) (fun _ _ _ h => h) (by rfl) (fun _ => rfl) (by assumption) ?_; simp only [Act.put, sS0, sS1, sS2]; refine wpAnyH_pureg 6 (v := .int .i64 (j : Int)) rfl (by kernel_rfl) (by kernel_rfl) (by kernel_rfl) (fun _ _ _ h => h) (by rfl) (fun _ => rfl) (by assumption) ?_; simp only [Act.put, sS0, sS1, sS2]; refine wpAnyH_pureg 7 (v := .pointer (some ⟨gD, j, none⟩)) rfl (by kernel_rfl) (by kernel_rfl) (by kernel_rfl) (fun _ _ _ h => h) (by rfl) (fun _ => by go_simp) (by assumption) ?_; simp only [Act.put, sS0, sS1, sS2]
            refine wpAnyH_cellg 8 (v := .int .i64 (x : Int)) rfl (by rfl) (fun w' h => by
              have e := (XD.out.mv h (by have := XD.out.lt; omega)).cell hjn; rw [HXY.out.1] at e
              go_simp) (by kernel_rfl) (by kernel_rfl) (by kernel_rfl) (fun _ _ _ h => h) (by assumption) ?_
            simp only [Act.put, sS0, sS1, sS2]; refine wpAnyH_pureg 9 (v := .slice (some ⟨gD, 0, none⟩) n cap) rfl (by kernel_rfl) (by kernel_rfl) (by kernel_rfl) (fun _ _ _ h => h) (by rfl) (fun _ => rfl) (by assumption) ?_; simp only [Act.put, sS0, sS1, sS2]; refine wpAnyH_pureg 10 (v := .int .i64 (j : Int)) rfl (by kernel_rfl) (by kernel_rfl) (by kernel_rfl) (fun _ _ _ h => h) (by rfl) (fun _ => rfl) (by assumption) ?_; simp only [Act.put, sS0, sS1, sS2]; refine wpAnyH_pureg 11 (v := .int .i64 (i : Int)) rfl (by kernel_rfl) (by kernel_rfl) (by kernel_rfl) (fun _ _ _ h => h) (by rfl) (fun _ => by go_simp) (by assumption) ?_; simp only [Act.put, sS0, sS1, sS2]; refine wpAnyH_pureg 12 (v := .pointer (some ⟨gD, i, none⟩)) rfl (by kernel_rfl) (by kernel_rfl) (by kernel_rfl) (fun _ _ _ h => h) (by rfl) (fun _ => by go_simp) (by assumption) ?_; simp only [Act.put, sS0, sS1, sS2]
            refine wpAnyH_cellg 13 (v := .int .i64 (y : Int)) rfl (by rfl) (fun w' h => by
              have e := (XD.out.mv h (by have := XD.out.lt; omega)).cell hin; rw [HXY.out.2] at e
              go_simp) (by kernel_rfl) (by kernel_rfl) (by kernel_rfl) (fun _ _ _ h => h) (by assumption) ?_
            simp only [Act.put, sS0, sS1, sS2]; refine wpAnyH_onew 14 rfl (by kernel_rfl) (by rfl) (fun K hK => ?_); go_simp; go_at_call 64
            (with_reducible refine (HKC.out _ (XS.out.below HSW.out XS.out.lt)).mono ?_)
            rintro e z24 ⟨rfl, hb⟩; replace HSW := HSW.y hb; refine hK.out _ _ (Mv.below HSW.out) (fun hHeld => ?_); clear hK K hb
            (try simp only [Act.put, sS0, sS1, sS2])
            refine wpAnyH_pureg 15 (v := .bool false) rfl (by kernel_rfl) (by kernel_rfl) (by kernel_rfl) (fun _ _ _ h => h) (by rfl) (fun _ => by go_simp) (by assumption) ?_; simp only [Act.put, sS0, sS1, sS2]; refine wpAnyH_pure 16 (v := .bool false) rfl (by kernel_rfl) (by kernel_rfl) (by kernel_rfl) (fun _ _ _ h => h) rfl (fun _ => by go_simp) (by assumption) ?_; simp only [Act.put, sS0, sS1, sS2]; refine wpAnyH_done (by kernel_rfl) ?_ _; replace HB : Sl (Below wr.heap.size wr z24) := ⟨HB.out.trans (HSW.out.mono HB.out.size)⟩; replace XS := XS.xi HSW.out; replace XD := XD.xi HSW.out; clear HSW; (try clear hHeld); replace HM : Sl (Mv gD wo z24) := ⟨Mv.trans HM.out (Mv.below HB.out)⟩; replace XDF : Sl (IB z24 gD n _) := ⟨XDF.out.below HB.out XDF.out.lt⟩; clear hcd; go_wp2_with fail; exact ⟨⟨m + 1, hmn, by go_num, ⟨Mv.trans HM0.out HM.out⟩, ⟨by rw [HT.out, HSK.out]; exact XDF.out⟩⟩, by simp [RowKit.intOf]; omega⟩
    · obtain rfl : n = m + 1 := (by omega); go_wp2_with fail; go_end0; exact ⟨rfl, HM.out, XD.out⟩
set_option maxHeartbeats 6400000 in
set_option maxRecDepth 100000 in
theorem stable_any (κ : Nat → Int) (gS gD n cap : Nat) (f : Nat → Int) (w : World) (hn0 : 1 ≤ n) (hn : n ≤ 12) (hf : ∀ j, j < n → 0 ≤ f j ∧ f j < 12) (hS : IB w gS 12 κ) (hD : IB w gD n f) (hne : gS ≠ gD) :
    Calls Tryz.prog 96 #[.slice (some ⟨gD, 0, none⟩) n cap, .int .i64 (n : Int), .func (.func 64) #[] #[.pointer (some ⟨gS, 0, none⟩)]] w fun e w' => e = .returned (.tuple #[]) ∧ Mv gD w w' ∧ IB w' gD n (sorty (keyZ κ) f (n - 1)) := by
  have HI : Sl _ := ⟨isort_any κ gS gD n cap f w hn0 hn hf hS hD hne⟩; clear hf hS hD hne; have hd1 : decide ((20 : Int) ≤ (n : Int)) = false := decide_eq_false (by omega); have hd2 : decide ((20 : Int) < (n : Int)) = false := decide_eq_false (by omega); go_enter Tryz.func96, Tryz.ntmps96; go_wp2_with fail
  go_loopw [7, 8] (fun s7 s8 wr => s7 = .int .i64 0 ∧ s8 = .int .i64 20 ∧ Sl (w = wr)) (fun _ _ _ => 0)
  case atStart => exact ⟨rfl, rfl, ⟨rfl⟩⟩
  case round =>
    obtain ⟨rfl, rfl, ⟨rfl⟩⟩ := hrel; go_wp2_with fail; refine HI.out.mono ?_; rintro e w2 ⟨rfl, hm, hib⟩; have HM : Sl _ := ⟨And.intro hm hib⟩; clear hm hib HI; go_wp2_with fail
    go_loopw [6] (fun s6 wq => s6 = .int .i64 20 ∧ Sl (Mv gD w wq ∧ IB wq gD n (sorty (keyZ κ) f (n - 1)))) (fun _ _ => 0)
    case atStart => exact ⟨rfl, HM⟩
    case round =>
      clear HM; obtain ⟨rfl, HM⟩ := hrel; go_wp2_with fail; go_end0; exact ⟨rfl, HM.out⟩
set_option maxHeartbeats 6400000 in
set_option maxRecDepth 100000 in
theorem sortst_any (κ : Nat → Int) (gS gD n cap : Nat) (f : Nat → Int) (w : World) (hn0 : 1 ≤ n) (hn : n ≤ 12) (hf : ∀ j, j < n → 0 ≤ f j ∧ f j < 12) (hS : IB w gS 12 κ) (hD : IB w gD n f) (hne : gS ≠ gD) :
    Calls Tryz.prog 63 #[.slice (some ⟨gD, 0, none⟩) n cap, .func (.func 64) #[] #[.pointer (some ⟨gS, 0, none⟩)]] w fun e w' => e = .returned (.tuple #[]) ∧ Mv gD w w' ∧ IB w' gD n (sorty (keyZ κ) f (n - 1)) := by
  have HI : Sl _ := ⟨stable_any κ gS gD n cap f w hn0 hn hf hS hD hne⟩; clear hf hS hD hne; go_enter Tryz.func63, Tryz.ntmps63; go_wp2_with fail; refine HI.out.mono ?_; rintro e w2 ⟨rfl, hm, hib⟩; have HM : Sl _ := ⟨And.intro hm hib⟩; clear hm hib HI; go_wp2_with fail; go_end0; exact ⟨rfl, HM.out⟩
end Go.Proofs.YtmcoadmnkelkkaaGreatDoor
namespace Go.Proofs.YtmcoadmnkelkkaaGreatDoor
set_option linter.unusedSimpArgs false
open Go.RowKit
set_option linter.unusedVariables false
attribute [-simp] Tryz.isAgg67 Tryz.isAgg35 Tryz.isAgg26 Tryz.isAgg24 Tryz.isAgg23 Tryz.isAgg90
noncomputable def TV.ky (t : TV) (j : Nat) : Int := absI (t.xc b54 j (j + 4)) + absI (t.xc b32 j (j + 7))
noncomputable def TV.sm (t : TV) (k j : Nat) : Int := if j < k then t.ky j else 0
def ident (j : Nat) : Int := (j : Int)
theorem upd_ident (k : Nat) : ∀ j, j < k + 1 → upd ident k (k : Int) j = ident j := fun j _ => by
  unfold upd ident
  split
  · rename_i h; rw [h]
  · rfl
theorem TV.sm_step (t : TV) (k : Nat) : ∀ j, j < 12 → upd (t.sm k) k (t.ky k) j = t.sm (k + 1) j := fun j _ => by
  unfold upd TV.sm
  by_cases h : j = k
  · subst h; rw [if_pos rfl, if_pos (by omega)]
  · rw [if_neg h]
    by_cases h2 : j < k
    · rw [if_pos h2, if_pos (by omega)]
    · rw [if_neg h2, if_neg (by omega)]
def Z12 : Array Value := (ints [0, 0, 0, 0, 0, 0, 0, 0, 0, 0, 0, 0]).toArray
theorem alloc_sums (w : World) : (Instr.alloc 90 true (.tuple #[])).run Tryz.prog w = .ok (.pointer (some ⟨w.heap.size, 0, none⟩)) (w.alloc (.cells Z12 90)) := by kernel_rfl
theorem Z12_ib {w : World} {g : Nat} {t : TypeId} (h : Blk w g t Z12) (tt : TV) : IB w g 12 (tt.sm 0) :=
  (IB.of_blk (L := [0, 0, 0, 0, 0, 0, 0, 0, 0, 0, 0, 0]) h rfl).congr fun j hj => by
    unfold TV.sm; rw [if_neg (by omega)]; have : ∀ j, j < 12 → ([0, 0, 0, 0, 0, 0, 0, 0, 0, 0, 0, 0] : List Int)[j]?.getD 0 = 0 := (by decide); exact this j hj
noncomputable def KyR (w w' : World) (e : Ending) (t : TV) : Prop := ILR w w' e (t.chk nameS) 12 (sorty (keyZ t.ky) ident 11)
theorem IB.grown {w w' : World} {g n : Nat} {f : Nat → Int} {row : Option Nat} (h : IB w g n f) (hb : w.grownBy w' row) (hg : some g ≠ row) : IB w' g n f := by
  obtain ⟨t, cs, hB, h1, h2⟩ := h; exact ⟨t, cs, hB.grown hb hg, h1, h2⟩
theorem IB.alloc {w : World} {g n : Nat} {f : Nat → Int} (h : IB w g n f) (o : Obj) : IB (w.alloc o) g n f := by
  obtain ⟨t, cs, hB, h1, h2⟩ := h; exact ⟨t, cs, hB.alloc o, h1, h2⟩
set_option maxHeartbeats 6400000 in
set_option maxRecDepth 100000 in
theorem tKeys_any (t : TV) (hs : t.nm.size ≤ maxLen) (w : World) (hT : PrT w) : Calls Tryz.prog 29 #[.agg t.cells] w fun e w' => KyR w w' e t ∧ Below w.heap.size w w' := by
  have HB : Sl (Below w.heap.size w w) := ⟨Below.refl _ _⟩; have HT : Sl _ := ⟨hT⟩; have HCK : Sl (∀ W : World, Calls Tryz.prog 41 #[.agg t.cells] W fun e w' => e = .returned (.int .i64 (t.chk nameS)) ∧ Below W.heap.size W w') := ⟨fun W => tcheck_any t W hs⟩; clear hT hs; unfold KyR; obtain ⟨c, hc⟩ : ∃ c, t.chk nameS = c := ⟨_, rfl⟩; rw [hc] at HCK; rw [hc]; have HC : Sl _ := ⟨hc⟩; clear hc; obtain ⟨i0, hi0, hz0, hz1, hz2⟩ := info_int; have HI : Sl _ := ⟨And.intro hi0 (And.intro hz0 (And.intro hz1 hz2))⟩; clear hi0 hz0 hz1 hz2; go_enter Tryz.func29, Tryz.ntmps29
  go_wp2_with ((with_reducible show wpList _ _ _ _ _ _); first
    | (refine wpList_box_new 1 rfl rfl 26 (.tmp 0) rfl t.cells rfl (box_temper t) ?_; rintro w1 gT zg zm zs zb; have ORD : Sl (w.heap.size ≤ gT) := ⟨by have := HB.out.size; omega⟩; replace HB := HB.v zm (by have := HB.out.size; have := ORD.out; omega); have XT : Sl (Blk w1 gT 26 t.cells) := ⟨zb⟩; clear zg zm zs zb)
    | (refine wpList_load_whole rfl 26 (.tmp 1) rfl gT rfl 26 t.cells _ XT.out Tryz.underlying26 rfl (size_temper t) ?_))
  refine (HCK.out _).mono ?_; rintro e w2 ⟨rfl, hb⟩; replace HB := HB.y hb; replace XT := XT.x hb; clear hb
  by_cases h0 : c = 0
  · subst h0; have HLO : Sl (∀ (W : World), PrT W → Blk W gT 26 t.cells → Calls Tryz.prog 43 #[.pointer (some ⟨gT, 0, none⟩)] W fun e w' => e = .returned (.agg (flatR (t.N))) ∧ Below W.heap.size W w') := ⟨fun W h hB => notes_any t HC.out gT W h hB⟩; go_wp2_with fail; refine (HLO.out _ (HT.out.below HB.out) XT.out).mono ?_; rintro e w3 ⟨rfl, hb⟩; replace HB := HB.y hb; replace XT := XT.x hb; clear hb
    go_wp2_with ((with_reducible show wpList _ _ _ _ _ _); first
      | (refine wpList_alloc_new 5 rfl rfl 67 rfl (flatR fun _ => RVzero) alloc_twelve ?_; rintro w4 gL zg zm zs zb; replace ORD : Sl (w.heap.size ≤ gT ∧ gT < gL) := ⟨by have := HB.out.size; have := ORD.out; have := XT.out.lt; omega⟩; replace HB := HB.v zm (by have := HB.out.size; have := ORD.out; omega); replace XT := XT.w zm (by have := XT.out.lt; have := ORD.out; omega); have XL : Sl (Blk w4 gL 67 (flatR fun _ => RVzero)) := ⟨zb⟩; clear zg zm zs zb)
      | (refine wpList_store_whole rfl 67 (.tmp 5) (.tmp 14) rfl gL (flatR t.N) rfl rfl 67 (flatR fun _ => RVzero) XL.out (by rw [flatR_size, flatR_size]) (size_twelve _) (flatR_one _) ?_; rintro w5 zm zs zb; replace HB := HB.v zm (by have := HB.out.size; have := ORD.out; omega); replace XT := XT.w zm (by have := XT.out.lt; have := ORD.out; omega); replace XL : Sl (Blk w5 gL 67 (flatR t.N)) := ⟨zb⟩; clear zm zs zb)
      | (refine wpList_alloc_new 6 rfl rfl 90 rfl Z12 alloc_sums ?_; rintro w6 gS zg zm zs zb; replace ORD : Sl (w.heap.size ≤ gT ∧ gT < gL ∧ gL < gS) := ⟨by have := HB.out.size; have := ORD.out; have := XT.out.lt; have := XL.out.lt; omega⟩; replace HB := HB.v zm (by have := HB.out.size; have := ORD.out; omega); replace XT := XT.w zm (by have := XT.out.lt; have := ORD.out; omega); replace XL := XL.w zm (by have := XL.out.lt; have := ORD.out; omega); have XS : Sl (Blk w6 gS 90 Z12) := ⟨zb⟩; clear zg zm zs zb))
    replace XS : Sl (IB w6 gS 12 (t.sm 0)) := ⟨Z12_ib XS.out t⟩; obtain ⟨B0, hB0⟩ : ∃ B, B = gS + 1 := ⟨_, rfl⟩; have HB0 : Sl _ := ⟨hB0⟩; clear hB0; have XO : Sl (w6.ownsRow B0 3 1 (.slice none 0 0) 0 (ints (fl ident 0))) := ⟨World.ownsRow_nil _ _ _ _⟩
    go_loopw [7, 15] (fun so sk wr => ∃ (k : Nat) (v5 : Value), k ≤ 12 ∧ sk = .int .i64 k ∧ v5 = so ∧ Sl (Below w.heap.size w wr) ∧ Sl (Blk wr gL 67 (flatR t.N)) ∧ Sl (IB wr gS 12 (t.sm k)) ∧ Sl (wr.ownsRow B0 3 1 v5 k (ints (fl ident k)))) (fun _ sk _ => 12 - (RowKit.intOf sk).toNat)
    case atStart => exact ⟨0, _, by decide, rfl, rfl, HB, XL, XS, XO⟩
    case round =>
      clear HB XL XS XO XT; obtain ⟨k, v5, hk, rfl, rfl, HB, XL, XS, XO⟩ := hrel
      by_cases hk12 : k < 12
      · have hk1 : (0 : Int) ≤ (k : Int) := (by omega); have hk2 : (k : Int) < 12 := (by omega); have OBXOS : Sl (∀ zk, v5.ownBlock = some zk → gS < zk) := ⟨fun zk hk => by have := (XO.out.lt zk hk).1; have := HB0.out; omega⟩; obtain ⟨x, hx⟩ : ∃ x, t.xc b54 k (k + 4) = x := ⟨_, rfl⟩; obtain ⟨y, hy⟩ : ∃ x, t.xc b32 k (k + 7) = x := ⟨_, rfl⟩; obtain ⟨hx1, hx2⟩ := TV.xc_bd HC.out HT.out pure54 k (k + 4); obtain ⟨hy1, hy2⟩ := TV.xc_bd HC.out HT.out pure32 k (k + 7); rw [hx] at hx1 hx2; rw [hy] at hy1 hy2; obtain ⟨a, ha⟩ : ∃ a, absI x = a := ⟨_, rfl⟩; obtain ⟨b, hb⟩ : ∃ a, absI y = a := ⟨_, rfl⟩; have hab := absI_bd hx1 hx2; have hbb := absI_bd hy1 hy2; rw [ha] at hab; rw [hb] at hbb; obtain ⟨ha1, ha2⟩ := hab; obtain ⟨hb1, hb2⟩ := hbb; have hky : t.ky k = a + b := (by unfold TV.ky; rw [hx, hy, ha, hb]); have HKY : Sl _ := ⟨hky⟩
        have HE3 : Sl (∀ W : World, PrT W → Blk W gL 67 (flatR t.N) → Calls Tryz.prog 59 #[.pointer (some ⟨gL, 0, none⟩), .int .i64 (k : Int)] W fun e w' => e = .returned (.int .i64 x) ∧ Below W.heap.size W w') := ⟨fun W h h2 => by
          have := third_any t HC.out gL k hk12 W h h2; rw [hx] at this
          exact this⟩
        have HE5 : Sl (∀ W : World, PrT W → Blk W gL 67 (flatR t.N) → Calls Tryz.prog 60 #[.pointer (some ⟨gL, 0, none⟩), .int .i64 (k : Int)] W fun e w' => e = .returned (.int .i64 y) ∧ Below W.heap.size W w') := ⟨fun W h h2 => by
          have := fifth_any t HC.out gL k hk12 W h h2; rw [hy] at this
          exact this⟩
        have HSX : Sl (∀ W : World, Calls Tryz.prog 62 #[.int .i64 x] W fun e w' => e = .returned (.int .i64 a) ∧ Below W.heap.size W w') := ⟨fun W => by
          have := tsize_any x W (by omega) (by omega); rw [ha] at this
          exact this⟩
        have HSY : Sl (∀ W : World, Calls Tryz.prog 62 #[.int .i64 y] W fun e w' => e = .returned (.int .i64 b) ∧ Below W.heap.size W w') := ⟨fun W => by
          have := tsize_any y W (by omega) (by omega); rw [hb] at this
          exact this⟩
        clear ha hb hx hy hky hx1 hx2 hy1 hy2; go_wp2_with fail; refine (HE3.out _ (HT.out.below HB.out) XL.out).mono ?_; rintro e w7 ⟨rfl, hb⟩; replace HB := HB.y hb; replace XL := XL.x hb; replace XS := XS.xi hb; replace XO : Sl (w7.ownsRow B0 3 1 v5 k (ints (fl ident k))) := ⟨own_mv XO.out (Mv.of_below hb) (fun zk hk => by have := (XO.out.lt zk hk).2; omega)⟩; clear hb; go_wp2_with fail; refine (HSX.out _).mono ?_; rintro e w8 ⟨rfl, hb⟩; replace HB := HB.y hb; replace XL := XL.x hb; replace XS := XS.xi hb; replace XO : Sl (w8.ownsRow B0 3 1 v5 k (ints (fl ident k))) := ⟨own_mv XO.out (Mv.of_below hb) (fun zk hk => by have := (XO.out.lt zk hk).2; omega)⟩; clear hb; go_wp2_with fail; refine (HE5.out _ (HT.out.below HB.out) XL.out).mono ?_; rintro e w9 ⟨rfl, hb⟩; replace HB := HB.y hb; replace XL := XL.x hb; replace XS := XS.xi hb; replace XO : Sl (w9.ownsRow B0 3 1 v5 k (ints (fl ident k))) := ⟨own_mv XO.out (Mv.of_below hb) (fun zk hk => by have := (XO.out.lt zk hk).2; omega)⟩; clear hb; go_wp2_with fail; refine (HSY.out _).mono ?_; rintro e w10 ⟨rfl, hb⟩; replace HB := HB.y hb; replace XL := XL.x hb; replace XS := XS.xi hb; replace XO : Sl (w10.ownsRow B0 3 1 v5 k (ints (fl ident k))) := ⟨own_mv XO.out (Mv.of_below hb) (fun zk hk => by have := (XO.out.lt zk hk).2; omega)⟩; clear hb
        go_wp2_with ((with_reducible show wpList _ _ _ _ _ _); first
          | (refine wpList_store_ib rfl 2 (.tmp 26) _ rfl gS 12 (k) ((a + b)) (t.sm k) rfl rfl XS.out hk12 size_i64 ?_; rintro w11 zm zs zb; replace HB := HB.v zm (by have := HB.out.size; have := ORD.out; omega); replace XL := XL.w zm (by have := XL.out.lt; have := ORD.out; omega); replace XO : Sl (w11.ownsRow B0 3 1 v5 k (ints (fl ident k))) := ⟨own_mv XO.out zm (fun zk hk => by have := OBXOS.out zk hk; omega)⟩; replace XS : Sl (IB w11 gS 12 (upd (t.sm k) k (a + b))) := ⟨zb⟩; clear zm zs zb)
          | (at_builtin; go_loud (refine wpList_append_any _ rfl (.tmp 27) (.tmp 29) _ rfl B0 3 i0 _ 1 8 Tryz.underlying53 HI.out.1 HI.out.2.1 HI.out.2.2.1 HI.out.2.2.2 rfl (by decide) v5 k _ rfl (own_alloc XO.out _) _ (some ⟨w11.heap.size, 0, none⟩) 1 1 [.int .i64 (k : Int)] rfl (reads_i1 _ _ _) (by intro u hu; simp at hu; subst hu; rfl) (by unfold maxLen; omega) (by omega) (by have := XS.out.lt; have := HB0.out; simp; omega) ?_); rintro v6 wN hown hg hat; have XQ : Sl (wN.ownsRow B0 3 1 v6 (k + 1) (ints (fl ident (k + 1)))) := ⟨by rw [← fl_ext (upd_ident k), ← fl_snoc]; exact hown⟩; have XLN : Sl (Blk wN gL 67 (flatR t.N)) := ⟨(XL.out.alloc _).grown hg (fun h => by have := (XO.out.lt gL h.symm).1; have := HB0.out; have := ORD.out; omega)⟩; have XSN : Sl (IB wN gS 12 (upd (t.sm k) k (a + b))) := ⟨(XS.out.alloc _).grown hg (fun h => by have := (XO.out.lt gS h.symm).1; have := HB0.out; omega)⟩; have HBN : Sl (Below w.heap.size w wN) := ⟨below_grown2 HB.out HB.out.size (own_base XO.out (by have := HB0.out; have := ORD.out; omega)) hg⟩; clear hown hg hat))
        exact ⟨⟨k + 1, v6, hk12, by go_num, rfl, HBN, XLN, ⟨XSN.out.congr (by rw [← HKY.out]; exact t.sm_step k)⟩, XQ⟩, by simp [RowKit.intOf]; omega⟩
      · obtain rfl : k = 12 := (by omega); clear hk12 hk; obtain ⟨gD, cap, rfl, hgD, hIB⟩ := own_ib XO.out (by decide); have XD : Sl (IB wr gD 12 ident) := ⟨hIB⟩; have hne : gS ≠ gD := (by have := HB0.out; omega); have HSO : Sl (∀ W : World, IB W gS 12 t.ky → IB W gD 12 ident → Calls Tryz.prog 63 #[.slice (some ⟨gD, 0, none⟩) 12 cap, .func (.func 64) #[] #[.pointer (some ⟨gS, 0, none⟩)]] W fun e w' => e = .returned (.tuple #[]) ∧ Mv gD W w' ∧ IB w' gD 12 (sorty (keyZ t.ky) ident 11)) := ⟨fun W h h2 => sortst_any t.ky gS gD 12 cap ident W (by decide) (by decide) (fun j hj => by unfold ident; omega) h h2 hne⟩; have XK : Sl (IB wr gS 12 t.ky) := ⟨XS.out.congr fun j hj => by unfold TV.sm; rw [if_pos hj]⟩; have HGD : Sl (w.heap.size ≤ gD) := ⟨by have := HB0.out; have := ORD.out; omega⟩; clear hIB hne hgD XO XS; go_wp2_with fail; refine (HSO.out _ XK.out XD.out).mono ?_; rintro e wz ⟨rfl, hm, hib⟩; replace HB : Sl (Below w.heap.size w wz) := ⟨below_mv HB.out hm HGD.out HB.out.size⟩; have XZ : Sl (IB wz gD 12 (sorty (keyZ t.ky) ident 11)) := ⟨hib⟩; clear hm hib; go_wp2_with fail; go_ret2; exact ⟨⟨fun h => absurd rfl h, fun _ h => absurd h (by decide), fun _ _ => ⟨gD, cap, rfl, HGD.out, XZ.out⟩⟩, HB.out⟩
  · have hz : ((c : Int) != 0) = true := (by rw [bne_iff_ne]; exact h0); go_wp2_with fail; go_ret2; exact ⟨⟨fun _ => rfl, fun h => absurd h h0, fun h => absurd h h0⟩, HB.out⟩
end Go.Proofs.YtmcoadmnkelkkaaGreatDoor
namespace Go.Proofs.YtmcoadmnkelkkaaGreatDoor
set_option linter.unusedSimpArgs false
open Go.RowKit
set_option linter.unusedVariables false
attribute [-simp] Tryz.isAgg35 Tryz.isAgg26 Tryz.isAgg24 Tryz.isAgg23
noncomputable def TV.g (t : TV) (k : Nat) : Nat → Int := sorty (keyZ t.ky) ident (k - 1)
noncomputable def TV.q (t : TV) (k j : Nat) : Int := keyZ t.ky (t.g k j)
theorem keyZ_at (κ : Nat → Int) (k : Nat) : keyZ κ (k : Int) = κ k := rfl
end Go.Proofs.YtmcoadmnkelkkaaGreatDoor
namespace Go.Proofs.YtmcoadmnkelkkaaGreatDoor
set_option linter.unusedSimpArgs false
open Go.RowKit
set_option linter.unusedVariables false
attribute [-simp] Tryz.isAgg67 Tryz.isAgg35 Tryz.isAgg26 Tryz.isAgg24 Tryz.isAgg23
def Told (w : World) (v : Value) (c : Int) (n : Nat) (f : Nat → Int) : Prop :=
  (¬ (c = 0 ∧ 0 < n) → v = .slice none 0 0) ∧ (c = 0 ∧ 0 < n → ∃ g cap, v = .slice (some ⟨g, 0, none⟩) n cap ∧ IB w g n f)
theorem Told.below {w w' : World} {v : Value} {c : Int} {n : Nat} {f : Nat → Int} (h : Told w v c n f) (hb : Below w.heap.size w w') : Told w' v c n f :=
  ⟨h.1, fun hc => by
    obtain ⟨g, cap, e, hI⟩ := h.2 hc
    exact ⟨g, cap, e, hI.below hb hI.lt⟩⟩
theorem Told.ints {w : World} {v1 v2 : Value} {c : Int} {n : Nat} {f : Nat → Int} (h1 : Told w v1 c n f) (h2 : Told w v2 c n f) (hn : n ≤ 12) : Calls Tryz.prog 33 #[v1, v2] w fun e w' => e = .returned (.bool true) ∧ Below w.heap.size w w' := by
  by_cases hc : c = 0 ∧ 0 < n
  · obtain ⟨g1, c1, rfl, i1⟩ := h1.2 hc; obtain ⟨g2, c2, rfl, i2⟩ := h2.2 hc; exact sameInts_any f g1 g2 n c1 c2 w hn i1 i2
  · obtain rfl := h1.1 hc; obtain rfl := h2.1 hc; exact sameInts_none w
theorem CentsT.told {w w' : World} {e : Ending} {t : TV} (h : CentsT w w' e t) : ∃ v, e = .returned (.tuple #[v, .int .i64 (t.chk nameS)]) ∧ Told w' v (t.chk nameS) 12 t.c := by
  by_cases hc : t.chk nameS = 0
  · obtain ⟨v, rfl, ho⟩ := h.2 hc; obtain ⟨g, cap, rfl, _, hI⟩ := IB.of_own ho (by decide); exact ⟨_, by rw [hc], fun hn => absurd ⟨hc, by decide⟩ hn, fun _ => ⟨g, cap, rfl, hI.congr fun j hj => t.cl_at hj⟩⟩
  · exact ⟨_, h.1 hc, fun _ => rfl, fun hn => absurd hn.1 hc⟩
theorem ILR.told {w w' : World} {e : Ending} {c : Int} {n : Nat} {f : Nat → Int} (h : ILR w w' e c n f) : ∃ v, e = .returned (.tuple #[v, .int .i64 c]) ∧ Told w' v c n f := by
  by_cases hc : c = 0
  · subst hc; rcases Nat.eq_zero_or_pos n with hn | hn
    · exact ⟨_, h.2.1 rfl hn, fun _ => rfl, fun h2 => absurd h2.2 (by omega)⟩
    · obtain ⟨g, cap, rfl, _, hI⟩ := h.2.2 rfl hn; exact ⟨_, rfl, fun h2 => absurd ⟨rfl, hn⟩ h2, fun _ => ⟨g, cap, rfl, hI⟩⟩
  · exact ⟨_, h.1 hc, fun _ => rfl, fun hn => absurd hn.1 hc⟩
theorem WoR.told {w w' : World} {e : Ending} {t : TV} {most : Int} (h : WoR w w' e t most) : ∃ v, e = .returned (.tuple #[v, .int .i64 (t.wc most)]) ∧ Told w' v (t.wc most) (t.wl most 12).length (fun j => (t.wl most 12)[j]?.getD 0) := by
  by_cases hc : t.wc most = 0
  · obtain ⟨v, rfl, ho, hz⟩ := h.2 hc; refine ⟨v, by rw [hc], fun hn => hz (by omega), fun hn => ?_⟩; obtain ⟨g, cap, rfl, _, hI⟩ := IB.of_own ho hn.2; exact ⟨g, cap, rfl, hI⟩
  · exact ⟨_, h.1 hc, fun _ => rfl, fun hn => absurd hn.1 hc⟩
end Go.Proofs.YtmcoadmnkelkkaaGreatDoor
namespace Go.Proofs.YtmcoadmnkelkkaaGreatDoor
set_option linter.unusedSimpArgs false
open Go.RowKit
set_option linter.unusedVariables false
theorem mk5_chk {nm : ByteArray} {syn : Bool} {wolf den : Int} {L : List Int} (hw : 0 ≤ wolf ∧ wolf ≤ 11) (hd : 1 ≤ den ∧ den ≤ 24) (hn : nameS nm = true) (hL : L.contains wolf = false) (ha : (TV.mk5 nm syn wolf den L 12).all 12 ≤ 120) : (TV.mk5 nm syn wolf den L 12).chk nameS = 0 := by
  have h1 : ∀ i, (TV.mk5 nm syn wolf den L 12).num i = if i < 12 ∧ L.contains (i : Int) = true then 1 else 0 := fun _ => rfl
  have h2 : ∀ i, i < 12 → (TV.mk5 nm syn wolf den L 12).den i = if L.contains (i : Int) = true then den else 1 := fun i hi => by
    show (if i < 12 then (if L.contains (i : Int) = true then den else 1) else 0) = _; rw [if_pos hi]
  unfold TV.chk; rw [if_neg (by show ¬ (wolf < 0 ∨ 11 < wolf); omega), if_neg, if_neg, if_neg (by omega)]
  · show ¬ (nameS nm = false ∨ _ ∨ _); rw [hn]; rintro (h | ⟨i, hi, h⟩ | h)
    · exact absurd h (by decide)
    · refine h ?_; unfold TV.low; rw [h1, h2 i hi]
      by_cases hc : L.contains (i : Int) = true
      · rw [if_pos ⟨hi, hc⟩]; exact Nat.gcd_one_left _
      · rw [if_neg (fun h => hc h.2), if_neg hc]; rfl
    · refine h ?_; show (TV.mk5 nm syn wolf den L 12).num wolf.toNat = 0; rw [h1, show ((wolf.toNat : Nat) : Int) = wolf by omega, hL]; rw [if_neg (by simp)]
  · rintro ⟨i, hi, h⟩; unfold TV.bad at h; rw [h1, h2 i hi] at h
    by_cases hc : L.contains (i : Int) = true
    · rw [if_pos hc, if_pos (And.intro hi hc)] at h; omega
    · rw [if_neg hc, if_neg (fun h : i < 12 ∧ L.contains (i : Int) = true => hc h.2)] at h; omega
theorem mk5_tp {t : TV} {nm : ByteArray} {syn : Bool} {wolf : Int} {den : Nat} {L : List Int} (ht : t = TV.mk5 nm syn wolf den L 12) (hd : 1 ≤ den) (ha : t.all 12 = den) : t.tp = ⟨syn, wolf.toNat, den, fun k => if k < 12 ∧ L.contains (k : Int) = true then 1 else 0⟩ := by
  unfold TV.tp; rw [ha]; clear ha; subst ht
  have hf : (fun k : Nat => (TV.mk5 nm syn wolf den L 12).num k * ((den : Int) / (TV.mk5 nm syn wolf den L 12).den k)) = fun k : Nat => if k < 12 ∧ L.contains (k : Int) = true then (1 : Int) else 0 := by
    funext k; show (if k < 12 ∧ L.contains (k : Int) = true then (1 : Int) else 0) * ((den : Int) / (if k < 12 then (if L.contains (k : Int) = true then (den : Int) else 1) else 0)) = _
    by_cases h : k < 12 ∧ L.contains (k : Int) = true
    · rw [if_pos h, if_pos h.1, if_pos h.2, Int.ediv_self (by omega)]; rfl
    · rw [if_neg h, Int.zero_mul]
  rw [hf]; rfl
theorem cm_is {u : Nat → Int} {D m : Int} (hu : fitsV u D) (h1 : TT (-D) u) (h2 : SS D u) {w : World} (hT : PrT w) (l : TT (m * D) (fun j => u j * 1200000)) (r : SS ((m + 1) * D) (fun j => u j * 1200000)) : cmN u D = m := by
  obtain ⟨b, h⟩ := ce_ex hu h1 h2 hT; exact Ce.is hu.1.1 h l r
theorem TP.Ok.c_is {t : TP} (h : t.Ok) {k : Nat} (hk : k ≤ 12) {w : World} (hT : PrT w) {m : Int} {v : Nat → Int} (hv : ∀ j, j < 6 → t.n k j = v j) (l : TT (m * t.D) (fun j => v j * 1200000)) (r : SS ((m + 1) * t.D) (fun j => v j * 1200000)) : cmN (t.n k) t.D = m := by
  obtain ⟨h1, h2⟩ := h.n_range hk; exact cm_is (h.n_fits hk) (h1.mono (by have := h.hD; omega)) h2 hT (l.congr fun j hj => by rw [hv j hj]) (r.congr fun j hj => by rw [hv j hj])
theorem TP.Ok.x_is {t : TP} (h : t.Ok) {p : Nat → Int} (hp : Pure p) {a b : Nat} (ha : a ≤ 12) (hb : b ≤ 12) {w : World} (hT : PrT w) {m : Int} {v : Nat → Int} (hv : ∀ j, j < 6 → t.x p a b j = v j) (l : TT (m * t.D) (fun j => v j * 1200000)) (r : SS ((m + 1) * t.D) (fun j => v j * 1200000)) : cmN (t.x p a b) t.D = m := by
  obtain ⟨h1, h2⟩ := h.x_rng hp ha hb; exact cm_is (h.x_fits hp ha hb) h1 h2 hT (l.congr fun j hj => by rw [hv j hj]) (r.congr fun j hj => by rw [hv j hj])
def eqT : TV := TV.mk5 ⟨#[101, 113, 117, 97, 108]⟩ false 11 12 [0, 1, 2, 3, 4, 5, 6, 7, 8, 9, 10] 12
def eqP : TP := ⟨false, 11, 12, fun k => if k < 12 ∧ ([0, 1, 2, 3, 4, 5, 6, 7, 8, 9, 10] : List Int).contains (k : Int) = true then 1 else 0⟩
theorem eq_std : stdT ⟨#[101, 113, 117, 97, 108]⟩ = (eqT, 0) := by
  unfold stdT eqT; rw [if_pos (by decide +kernel)]
theorem eq_all : eqT.all 12 = 12 := by decide +kernel
theorem eq_chk : eqT.chk nameS = 0 := mk5_chk (by decide) (by decide) (by decide +kernel) (by decide) (by show eqT.all 12 ≤ 120; rw [eq_all]; decide)
theorem eq_tp : eqT.tp = eqP := mk5_tp (den := 12) (t := eqT) rfl (by decide) eq_all
theorem eq_ok : eqP.Ok := eq_tp ▸ TV.tp_ok eq_chk
theorem eq_nm : eqT.nm.size ≤ maxLen := by
  have : eqT.nm.size = 5 := (by decide +kernel); rw [this]; decide
def pyT : TV := TV.mk5 ⟨#[112, 121, 116, 104, 97, 103, 111, 114, 101, 97, 110]⟩ false 8 1 [] 12
def pyP : TP := ⟨false, 8, 1, fun k => if k < 12 ∧ ([] : List Int).contains (k : Int) = true then 1 else 0⟩
theorem py_std : stdT ⟨#[112, 121, 116, 104, 97, 103, 111, 114, 101, 97, 110]⟩ = (pyT, 0) := by
  unfold stdT pyT; rw [if_neg (by decide +kernel), if_pos (by decide +kernel)]
theorem py_all : pyT.all 12 = 1 := by decide +kernel
theorem py_chk : pyT.chk nameS = 0 := mk5_chk (by decide) (by decide) (by decide +kernel) (by decide) (by show pyT.all 12 ≤ 120; rw [py_all]; decide)
theorem py_tp : pyT.tp = pyP := mk5_tp (den := 1) (t := pyT) rfl (by decide) py_all
theorem py_ok : pyP.Ok := py_tp ▸ TV.tp_ok py_chk
theorem py_nm : pyT.nm.size ≤ maxLen := by
  have : pyT.nm.size = 11 := (by decide +kernel); rw [this]; decide
def meT : TV := TV.mk5 ⟨#[109, 101, 97, 110, 116, 111, 110, 101]⟩ true 8 4 [0, 1, 2, 3, 4, 5, 6, 7, 9, 10, 11] 12
def meP : TP := ⟨true, 8, 4, fun k => if k < 12 ∧ ([0, 1, 2, 3, 4, 5, 6, 7, 9, 10, 11] : List Int).contains (k : Int) = true then 1 else 0⟩
theorem me_std : stdT ⟨#[109, 101, 97, 110, 116, 111, 110, 101]⟩ = (meT, 0) := by
  unfold stdT meT; rw [if_neg (by decide +kernel), if_neg (by decide +kernel), if_pos (by decide +kernel)]
theorem me_all : meT.all 12 = 4 := by decide +kernel
theorem me_chk : meT.chk nameS = 0 := mk5_chk (by decide) (by decide) (by decide +kernel) (by decide) (by show meT.all 12 ≤ 120; rw [me_all]; decide)
theorem me_tp : meT.tp = meP := mk5_tp (den := 4) (t := meT) rfl (by decide) me_all
theorem me_ok : meP.Ok := me_tp ▸ TV.tp_ok me_chk
theorem me_nm : meT.nm.size ≤ maxLen := by
  have : meT.nm.size = 8 := (by decide +kernel); rw [this]; decide
def weT : TV := TV.mk5 ⟨#[119, 101, 114, 99, 107, 109, 101, 105, 115, 116, 101, 114]⟩ false 11 4 [0, 1, 2, 5] 12
def weP : TP := ⟨false, 11, 4, fun k => if k < 12 ∧ ([0, 1, 2, 5] : List Int).contains (k : Int) = true then 1 else 0⟩
theorem we_std : stdT ⟨#[119, 101, 114, 99, 107, 109, 101, 105, 115, 116, 101, 114]⟩ = (weT, 0) := by
  unfold stdT weT; rw [if_neg (by decide +kernel), if_neg (by decide +kernel), if_neg (by decide +kernel), if_pos (by decide +kernel)]
theorem we_all : weT.all 12 = 4 := by decide +kernel
theorem we_chk : weT.chk nameS = 0 := mk5_chk (by decide) (by decide) (by decide +kernel) (by decide) (by show weT.all 12 ≤ 120; rw [we_all]; decide)
theorem we_tp : weT.tp = weP := mk5_tp (den := 4) (t := weT) rfl (by decide) we_all
theorem we_ok : weP.Ok := we_tp ▸ TV.tp_ok we_chk
theorem we_nm : weT.nm.size ≤ maxLen := by
  have : weT.nm.size = 12 := (by decide +kernel); rw [this]; decide
def kiT : TV := TV.mk5 ⟨#[107, 105, 114, 110, 98, 101, 114, 103, 101, 114]⟩ true 6 4 [0, 1, 2, 3] 12
def kiP : TP := ⟨true, 6, 4, fun k => if k < 12 ∧ ([0, 1, 2, 3] : List Int).contains (k : Int) = true then 1 else 0⟩
theorem ki_std : stdT ⟨#[107, 105, 114, 110, 98, 101, 114, 103, 101, 114]⟩ = (kiT, 0) := by
  unfold stdT kiT; rw [if_neg (by decide +kernel), if_neg (by decide +kernel), if_neg (by decide +kernel), if_neg (by decide +kernel), if_pos (by decide +kernel)]
theorem ki_all : kiT.all 12 = 4 := by decide +kernel
theorem ki_chk : kiT.chk nameS = 0 := mk5_chk (by decide) (by decide) (by decide +kernel) (by decide) (by show kiT.all 12 ≤ 120; rw [ki_all]; decide)
theorem ki_tp : kiT.tp = kiP := mk5_tp (den := 4) (t := kiT) rfl (by decide) ki_all
theorem ki_nm : kiT.nm.size ≤ maxLen := by
  have : kiT.nm.size = 10 := (by decide +kernel); rw [this]; decide
def yoT : TV := TV.mk5 ⟨#[121, 111, 117, 110, 103]⟩ false 11 6 [0, 1, 2, 3, 4, 5] 12
theorem yo_std : stdT ⟨#[121, 111, 117, 110, 103]⟩ = (yoT, 0) := by
  unfold stdT yoT; rw [if_neg (by decide +kernel), if_neg (by decide +kernel), if_neg (by decide +kernel), if_neg (by decide +kernel), if_neg (by decide +kernel), if_neg (by decide +kernel), if_pos (by decide +kernel)]
theorem yo_all : yoT.all 12 = 6 := by decide +kernel
theorem yo_chk : yoT.chk nameS = 0 := mk5_chk (by decide) (by decide) (by decide +kernel) (by decide) (by show yoT.all 12 ≤ 120; rw [yo_all]; decide)
theorem yo_nm : yoT.nm.size ≤ maxLen := by
  have : yoT.nm.size = 5 := (by decide +kernel); rw [this]; decide
theorem eq_n1 : ∀ j, j < 6 → fol (eqP.S 1) eqP.D j = v3 (7) (0) (0) j := fol_v3 (k := 0) (a := 7) (b := 0) (c := 0) (by decide +kernel) (flo_nat (0) (7) (0) (0) (by decide +kernel) (by decide) (TT_nat 0 0 (e3 7 0 0) (e3 0 0 0) (by decide) (by decide) (by decide +kernel)) (SS_nat 12 0 (e3 7 0 0) (e3 0 0 0) (by decide) (by decide) (by decide +kernel)))
theorem eq_c7_lo : TT (700000 * 12) (fun j => v3 (7) (0) (0) j * 1200000) := cents_lo (z := v3 (7) (0) (0)) (D := 12) (m := 700000) (p := 7) (q := 1) (by decide) (TT_nat 7 0 (e3 7 0 0) (e3 0 0 0) (by decide) (by decide) (by decide +kernel)) (by decide)
theorem eq_c7_hi : SS ((700000 + 1) * 12) (fun j => v3 (7) (0) (0) j * 1200000) := cents_hi (z := v3 (7) (0) (0)) (D := 12) (m := 700000) (p := 700001) (q := 100000) (SS_nat 700001 0 (e3 700000 0 0) (e3 0 0 0) (by decide) (by decide) (by decide +kernel)) (by decide)
theorem eq_cv7 {w : World} (hT : PrT w) : eqT.c 7 = 700000 := by
  unfold TV.c; rw [eq_tp]; exact eq_ok.c_is (k := 1) (by decide) hT eq_n1 eq_c7_lo eq_c7_hi
theorem py_n4 : ∀ j, j < 6 → fol (pyP.S 4) pyP.D j = v3 (-6) (4) (0) j := fol_v3 (k := 2) (a := -4) (b := 4) (c := 0) (by decide +kernel) (flo_nat (2) (-4) (4) (0) (by decide +kernel) (by decide) (TT_nat 2 0 (e3 0 4 0) (e3 4 0 0) (by decide) (by decide) (by decide +kernel)) (SS_nat 3 0 (e3 0 4 0) (e3 4 0 0) (by decide) (by decide) (by decide +kernel)))
theorem py_c4_lo : TT (407820 * 1) (fun j => v3 (-6) (4) (0) j * 1200000) := cents_lo (z := v3 (-6) (4) (0)) (D := 1) (m := 407820) (p := 6797) (q := 20000) (by decide) (TT_nat 6797 0 (e3 0 80000 0) (e3 120000 0 0) (by decide) (by decide) (by decide +kernel)) (by decide)
theorem py_c4_hi : SS ((407820 + 1) * 1) (fun j => v3 (-6) (4) (0) j * 1200000) := cents_hi (z := v3 (-6) (4) (0)) (D := 1) (m := 407820) (p := 591) (q := 1739) (SS_nat 591 0 (e3 0 6956 0) (e3 10434 0 0) (by decide) (by decide) (by decide +kernel)) (by decide)
theorem py_cv4 {w : World} (hT : PrT w) : pyT.c 4 = 407820 := by
  unfold TV.c; rw [py_tp]; exact py_ok.c_is (k := 4) (by decide) hT py_n4 py_c4_lo py_c4_hi
theorem we_n1 : ∀ j, j < 6 → fol (weP.S 1) weP.D j = v3 (15) (-8) (0) j := fol_v3 (k := 0) (a := 15) (b := -8) (c := 0) (by decide +kernel) (flo_nat (0) (15) (-8) (0) (by decide +kernel) (by decide) (TT_nat 0 0 (e3 15 0 0) (e3 0 8 0) (by decide) (by decide) (by decide +kernel)) (SS_nat 4 0 (e3 15 0 0) (e3 0 8 0) (by decide) (by decide) (by decide +kernel)))
theorem we_c7_lo : TT (696089 * 4) (fun j => v3 (15) (-8) (0) j * 1200000) := cents_lo (z := v3 (15) (-8) (0)) (D := 4) (m := 696089) (p := 1246) (q := 537) (by decide) (TT_nat 1246 0 (e3 8055 0 0) (e3 0 4296 0) (by decide) (by decide) (by decide +kernel)) (by decide)
theorem we_c7_hi : SS ((696089 + 1) * 4) (fun j => v3 (15) (-8) (0) j * 1200000) := cents_hi (z := v3 (15) (-8) (0)) (D := 4) (m := 696089) (p := 23203) (q := 10000) (SS_nat 23203 0 (e3 150000 0 0) (e3 0 80000 0) (by decide) (by decide) (by decide +kernel)) (by decide)
theorem we_cv7 {w : World} (hT : PrT w) : weT.c 7 = 696089 := by
  unfold TV.c; rw [we_tp]; exact we_ok.c_is (k := 1) (by decide) hT we_n1 we_c7_lo we_c7_hi
theorem we_n3 : ∀ j, j < 6 → fol (weP.S 3) weP.D j = v3 (41) (-24) (0) j := fol_v3 (k := 1) (a := 45) (b := -24) (c := 0) (by decide +kernel) (flo_nat (1) (45) (-24) (0) (by decide +kernel) (by decide) (TT_nat 4 0 (e3 45 0 0) (e3 0 24 0) (by decide) (by decide) (by decide +kernel)) (SS_nat 8 0 (e3 45 0 0) (e3 0 24 0) (by decide) (by decide) (by decide +kernel)))
theorem we_c9_lo : TT (888269 * 4) (fun j => v3 (41) (-24) (0) j * 1200000) := cents_lo (z := v3 (41) (-24) (0)) (D := 4) (m := 888269) (p := 3029) (q := 1023) (by decide) (TT_nat 3029 0 (e3 41943 0 0) (e3 0 24552 0) (by decide) (by decide) (by decide +kernel)) (by decide)
theorem we_c9_hi : SS ((888269 + 1) * 4) (fun j => v3 (41) (-24) (0) j * 1200000) := cents_hi (z := v3 (41) (-24) (0)) (D := 4) (m := 888269) (p := 21582) (q := 7289) (SS_nat 21582 0 (e3 298849 0 0) (e3 0 174936 0) (by decide) (by decide) (by decide +kernel)) (by decide)
theorem we_cv9 {w : World} (hT : PrT w) : weT.c 9 = 888269 := by
  unfold TV.c; rw [we_tp]; exact we_ok.c_is (k := 3) (by decide) hT we_n3 we_c9_lo we_c9_hi
theorem me_n0 : ∀ j, j < 6 → fol (meP.S 0) meP.D j = v3 (0) (0) (0) j := fol_v3 (k := 0) (a := 0) (b := 0) (c := 0) (by decide +kernel) (flo_nat (0) (0) (0) (0) (by decide +kernel) (by decide) (TT_nat 0 0 (e3 0 0 0) (e3 0 0 0) (by decide) (by decide) (by decide +kernel)) (SS_nat 4 0 (e3 0 0 0) (e3 0 0 0) (by decide) (by decide) (by decide +kernel)))
theorem me_n4 : ∀ j, j < 6 → fol (meP.S 4) meP.D j = v3 (-8) (0) (4) j := fol_v3 (k := 2) (a := 0) (b := 0) (c := 4) (by decide +kernel) (flo_nat (2) (0) (0) (4) (by decide +kernel) (by decide) (TT_nat 8 0 (e3 0 0 4) (e3 0 0 0) (by decide) (by decide) (by decide +kernel)) (SS_nat 12 0 (e3 0 0 4) (e3 0 0 0) (by decide) (by decide) (by decide +kernel)))
theorem me_b0_4 : ∀ j, j < 6 → fol (meP.y 0 4) meP.D j = v3 (-8) (0) (4) j := fol_v3 (k := 0) (a := -8) (b := 0) (c := 4) (fun j hj => by unfold TP.y TP.n; rw [me_n0 j hj, me_n4 j hj]; revert j; decide) (flo_nat (0) (-8) (0) (4) (fun j hj => by unfold TP.y TP.n; rw [me_n0 j hj, me_n4 j hj]; revert j; decide) (by decide) (TT_nat 0 0 (e3 0 0 4) (e3 8 0 0) (by decide) (by decide) (by decide +kernel)) (SS_nat 4 0 (e3 0 0 4) (e3 8 0 0) (by decide) (by decide) (by decide +kernel)))
theorem me_x0_lo : TT (0 * 4) (fun j => v3 (0) (0) (0) j * 1200000) := TT_nat 0 0 (e3 0 0 0) (e3 0 0 0) (by decide) (by decide) (by decide +kernel)
theorem me_x0_hi : SS ((0 + 1) * 4) (fun j => v3 (0) (0) (0) j * 1200000) := SS_nat 4 0 (e3 0 0 0) (e3 0 0 0) (by decide) (by decide) (by decide +kernel)
theorem me_b54_0 {w : World} (hT : PrT w) : meT.xc b54 0 4 = 0 := by
  unfold TV.xc TV.X; rw [me_tp]; exact me_ok.x_is pure54 (a := 0) (b := 4) (by decide) (by decide) hT (v := v3 (0) (0) (0)) (fun j hj => by unfold TP.x TP.b; rw [me_b0_4 j hj]; revert j; decide) me_x0_lo me_x0_hi
theorem me_n1 : ∀ j, j < 6 → fol (meP.S 1) meP.D j = v3 (0) (0) (1) j := fol_v3 (k := 0) (a := 0) (b := 0) (c := 1) (by decide +kernel) (flo_nat (0) (0) (0) (1) (by decide +kernel) (by decide) (TT_nat 0 0 (e3 0 0 1) (e3 0 0 0) (by decide) (by decide) (by decide +kernel)) (SS_nat 4 0 (e3 0 0 1) (e3 0 0 0) (by decide) (by decide) (by decide +kernel)))
theorem me_b0_1 : ∀ j, j < 6 → fol (meP.y 0 1) meP.D j = v3 (0) (0) (1) j := fol_v3 (k := 0) (a := 0) (b := 0) (c := 1) (fun j hj => by unfold TP.y TP.n; rw [me_n0 j hj, me_n1 j hj]; revert j; decide) (flo_nat (0) (0) (0) (1) (fun j hj => by unfold TP.y TP.n; rw [me_n0 j hj, me_n1 j hj]; revert j; decide) (by decide) (TT_nat 0 0 (e3 0 0 1) (e3 0 0 0) (by decide) (by decide) (by decide +kernel)) (SS_nat 4 0 (e3 0 0 1) (e3 0 0 0) (by decide) (by decide) (by decide +kernel)))
theorem me_x1_lo : TT (-5377 * 4) (fun j => v3 (4) (-4) (1) j * 1200000) := cents_lo (z := v3 (4) (-4) (1)) (D := 4) (m := -5377) (p := -34) (q := 1897) (by decide) (TT_nat 0 34 (e3 7588 0 1897) (e3 0 7588 0) (by decide) (by decide) (by decide +kernel)) (by decide)
theorem me_x1_hi : SS ((-5377 + 1) * 4) (fun j => v3 (4) (-4) (1) j * 1200000) := cents_hi (z := v3 (4) (-4) (1)) (D := 4) (m := -5377) (p := -5) (q := 279) (SS_nat 0 5 (e3 1116 0 279) (e3 0 1116 0) (by decide) (by decide) (by decide +kernel)) (by decide)
theorem me_b32_0 {w : World} (hT : PrT w) : meT.xc b32 0 7 = -5377 := by
  unfold TV.xc TV.X; rw [me_tp]; exact me_ok.x_is pure32 (a := 0) (b := 1) (by decide) (by decide) hT (v := v3 (4) (-4) (1)) (fun j hj => by unfold TP.x TP.b; rw [me_b0_1 j hj]; revert j; decide) me_x1_lo me_x1_hi
theorem me_n7 : ∀ j, j < 6 → fol (meP.S 7) meP.D j = v3 (-16) (0) (7) j := fol_v3 (k := 4) (a := 0) (b := 0) (c := 7) (by decide +kernel) (flo_nat (4) (0) (0) (7) (by decide +kernel) (by decide) (TT_nat 16 0 (e3 0 0 7) (e3 0 0 0) (by decide) (by decide) (by decide +kernel)) (SS_nat 20 0 (e3 0 0 7) (e3 0 0 0) (by decide) (by decide) (by decide +kernel)))
theorem me_n11 : ∀ j, j < 6 → fol (meP.S 11) meP.D j = v3 (4) (0) (-1) j := fol_v3 (k := 6) (a := 28) (b := 0) (c := -1) (by decide +kernel) (flo_nat (6) (28) (0) (-1) (by decide +kernel) (by decide) (TT_nat 24 0 (e3 28 0 0) (e3 0 0 1) (by decide) (by decide) (by decide +kernel)) (SS_nat 28 0 (e3 28 0 0) (e3 0 0 1) (by decide) (by decide) (by decide +kernel)))
theorem me_b7_11 : ∀ j, j < 6 → fol (meP.y 7 11) meP.D j = v3 (20) (0) (-8) j := fol_v3 (k := 0) (a := 20) (b := 0) (c := -8) (fun j hj => by unfold TP.y TP.n; rw [me_n7 j hj, me_n11 j hj]; revert j; decide) (flo_nat (0) (20) (0) (-8) (fun j hj => by unfold TP.y TP.n; rw [me_n7 j hj, me_n11 j hj]; revert j; decide) (by decide) (TT_nat 0 0 (e3 20 0 0) (e3 0 0 8) (by decide) (by decide) (by decide +kernel)) (SS_nat 4 0 (e3 20 0 0) (e3 0 0 8) (by decide) (by decide) (by decide +kernel)))
theorem me_x2_lo : TT (41058 * 4) (fun j => v3 (28) (0) (-12) j * 1200000) := cents_lo (z := v3 (28) (0) (-12)) (D := 4) (m := 41058) (p := 75) (q := 548) (by decide) (TT_nat 75 0 (e3 15344 0 0) (e3 0 0 6576) (by decide) (by decide) (by decide +kernel)) (by decide)
theorem me_x2_hi : SS ((41058 + 1) * 4) (fun j => v3 (28) (0) (-12) j * 1200000) := cents_hi (z := v3 (28) (0) (-12)) (D := 4) (m := 41058) (p := 137) (q := 1001) (SS_nat 137 0 (e3 28028 0 0) (e3 0 0 12012) (by decide) (by decide) (by decide +kernel)) (by decide)
theorem me_b54_1 {w : World} (hT : PrT w) : meT.xc b54 1 5 = 41058 := by
  unfold TV.xc TV.X; rw [me_tp]; exact me_ok.x_is pure54 (a := 7) (b := 11) (by decide) (by decide) hT (v := v3 (28) (0) (-12)) (fun j hj => by unfold TP.x TP.b; rw [me_b7_11 j hj]; revert j; decide) me_x2_lo me_x2_hi
theorem me_n8 : ∀ j, j < 6 → fol (meP.S 8) meP.D j = v3 (-16) (0) (8) j := fol_v3 (k := 4) (a := 0) (b := 0) (c := 8) (by decide +kernel) (flo_nat (4) (0) (0) (8) (by decide +kernel) (by decide) (TT_nat 16 0 (e3 0 0 8) (e3 0 0 0) (by decide) (by decide) (by decide +kernel)) (SS_nat 20 0 (e3 0 0 8) (e3 0 0 0) (by decide) (by decide) (by decide +kernel)))
theorem me_b7_8 : ∀ j, j < 6 → fol (meP.y 7 8) meP.D j = v3 (0) (0) (1) j := fol_v3 (k := 0) (a := 0) (b := 0) (c := 1) (fun j hj => by unfold TP.y TP.n; rw [me_n7 j hj, me_n8 j hj]; revert j; decide) (flo_nat (0) (0) (0) (1) (fun j hj => by unfold TP.y TP.n; rw [me_n7 j hj, me_n8 j hj]; revert j; decide) (by decide) (TT_nat 0 0 (e3 0 0 1) (e3 0 0 0) (by decide) (by decide) (by decide +kernel)) (SS_nat 4 0 (e3 0 0 1) (e3 0 0 0) (by decide) (by decide) (by decide +kernel)))
theorem me_b32_1 {w : World} (hT : PrT w) : meT.xc b32 1 8 = -5377 := by
  unfold TV.xc TV.X; rw [me_tp]; exact me_ok.x_is pure32 (a := 7) (b := 8) (by decide) (by decide) hT (v := v3 (4) (-4) (1)) (fun j hj => by unfold TP.x TP.b; rw [me_b7_8 j hj]; revert j; decide) me_x1_lo me_x1_hi
theorem me_n2 : ∀ j, j < 6 → fol (meP.S 2) meP.D j = v3 (-4) (0) (2) j := fol_v3 (k := 1) (a := 0) (b := 0) (c := 2) (by decide +kernel) (flo_nat (1) (0) (0) (2) (by decide +kernel) (by decide) (TT_nat 4 0 (e3 0 0 2) (e3 0 0 0) (by decide) (by decide) (by decide +kernel)) (SS_nat 8 0 (e3 0 0 2) (e3 0 0 0) (by decide) (by decide) (by decide +kernel)))
theorem me_n6 : ∀ j, j < 6 → fol (meP.S 6) meP.D j = v3 (-12) (0) (6) j := fol_v3 (k := 3) (a := 0) (b := 0) (c := 6) (by decide +kernel) (flo_nat (3) (0) (0) (6) (by decide +kernel) (by decide) (TT_nat 12 0 (e3 0 0 6) (e3 0 0 0) (by decide) (by decide) (by decide +kernel)) (SS_nat 16 0 (e3 0 0 6) (e3 0 0 0) (by decide) (by decide) (by decide +kernel)))
theorem me_b2_6 : ∀ j, j < 6 → fol (meP.y 2 6) meP.D j = v3 (-8) (0) (4) j := fol_v3 (k := 0) (a := -8) (b := 0) (c := 4) (fun j hj => by unfold TP.y TP.n; rw [me_n2 j hj, me_n6 j hj]; revert j; decide) (flo_nat (0) (-8) (0) (4) (fun j hj => by unfold TP.y TP.n; rw [me_n2 j hj, me_n6 j hj]; revert j; decide) (by decide) (TT_nat 0 0 (e3 0 0 4) (e3 8 0 0) (by decide) (by decide) (by decide +kernel)) (SS_nat 4 0 (e3 0 0 4) (e3 8 0 0) (by decide) (by decide) (by decide +kernel)))
theorem me_b54_2 {w : World} (hT : PrT w) : meT.xc b54 2 6 = 0 := by
  unfold TV.xc TV.X; rw [me_tp]; exact me_ok.x_is pure54 (a := 2) (b := 6) (by decide) (by decide) hT (v := v3 (0) (0) (0)) (fun j hj => by unfold TP.x TP.b; rw [me_b2_6 j hj]; revert j; decide) me_x0_lo me_x0_hi
theorem me_n3 : ∀ j, j < 6 → fol (meP.S 3) meP.D j = v3 (-4) (0) (3) j := fol_v3 (k := 1) (a := 0) (b := 0) (c := 3) (by decide +kernel) (flo_nat (1) (0) (0) (3) (by decide +kernel) (by decide) (TT_nat 4 0 (e3 0 0 3) (e3 0 0 0) (by decide) (by decide) (by decide +kernel)) (SS_nat 8 0 (e3 0 0 3) (e3 0 0 0) (by decide) (by decide) (by decide +kernel)))
theorem me_b2_3 : ∀ j, j < 6 → fol (meP.y 2 3) meP.D j = v3 (0) (0) (1) j := fol_v3 (k := 0) (a := 0) (b := 0) (c := 1) (fun j hj => by unfold TP.y TP.n; rw [me_n2 j hj, me_n3 j hj]; revert j; decide) (flo_nat (0) (0) (0) (1) (fun j hj => by unfold TP.y TP.n; rw [me_n2 j hj, me_n3 j hj]; revert j; decide) (by decide) (TT_nat 0 0 (e3 0 0 1) (e3 0 0 0) (by decide) (by decide) (by decide +kernel)) (SS_nat 4 0 (e3 0 0 1) (e3 0 0 0) (by decide) (by decide) (by decide +kernel)))
theorem me_b32_2 {w : World} (hT : PrT w) : meT.xc b32 2 9 = -5377 := by
  unfold TV.xc TV.X; rw [me_tp]; exact me_ok.x_is pure32 (a := 2) (b := 3) (by decide) (by decide) hT (v := v3 (4) (-4) (1)) (fun j hj => by unfold TP.x TP.b; rw [me_b2_3 j hj]; revert j; decide) me_x1_lo me_x1_hi
theorem me_n9 : ∀ j, j < 6 → fol (meP.S 9) meP.D j = v3 (8) (0) (-3) j := fol_v3 (k := 5) (a := 28) (b := 0) (c := -3) (by decide +kernel) (flo_nat (5) (28) (0) (-3) (by decide +kernel) (by decide) (TT_nat 20 0 (e3 28 0 0) (e3 0 0 3) (by decide) (by decide) (by decide +kernel)) (SS_nat 24 0 (e3 28 0 0) (e3 0 0 3) (by decide) (by decide) (by decide +kernel)))
theorem me_b9_1 : ∀ j, j < 6 → fol (meP.y 9 1) meP.D j = v3 (-8) (0) (4) j := fol_v3 (k := 0) (a := -8) (b := 0) (c := 4) (fun j hj => by unfold TP.y TP.n; rw [me_n9 j hj, me_n1 j hj]; revert j; decide) (flo_nat (0) (-8) (0) (4) (fun j hj => by unfold TP.y TP.n; rw [me_n9 j hj, me_n1 j hj]; revert j; decide) (by decide) (TT_nat 0 0 (e3 0 0 4) (e3 8 0 0) (by decide) (by decide) (by decide +kernel)) (SS_nat 4 0 (e3 0 0 4) (e3 8 0 0) (by decide) (by decide) (by decide +kernel)))
theorem me_b54_3 {w : World} (hT : PrT w) : meT.xc b54 3 7 = 0 := by
  unfold TV.xc TV.X; rw [me_tp]; exact me_ok.x_is pure54 (a := 9) (b := 1) (by decide) (by decide) hT (v := v3 (0) (0) (0)) (fun j hj => by unfold TP.x TP.b; rw [me_b9_1 j hj]; revert j; decide) me_x0_lo me_x0_hi
theorem me_n10 : ∀ j, j < 6 → fol (meP.S 10) meP.D j = v3 (8) (0) (-2) j := fol_v3 (k := 5) (a := 28) (b := 0) (c := -2) (by decide +kernel) (flo_nat (5) (28) (0) (-2) (by decide +kernel) (by decide) (TT_nat 20 0 (e3 28 0 0) (e3 0 0 2) (by decide) (by decide) (by decide +kernel)) (SS_nat 24 0 (e3 28 0 0) (e3 0 0 2) (by decide) (by decide) (by decide +kernel)))
theorem me_b9_10 : ∀ j, j < 6 → fol (meP.y 9 10) meP.D j = v3 (0) (0) (1) j := fol_v3 (k := 0) (a := 0) (b := 0) (c := 1) (fun j hj => by unfold TP.y TP.n; rw [me_n9 j hj, me_n10 j hj]; revert j; decide) (flo_nat (0) (0) (0) (1) (fun j hj => by unfold TP.y TP.n; rw [me_n9 j hj, me_n10 j hj]; revert j; decide) (by decide) (TT_nat 0 0 (e3 0 0 1) (e3 0 0 0) (by decide) (by decide) (by decide +kernel)) (SS_nat 4 0 (e3 0 0 1) (e3 0 0 0) (by decide) (by decide) (by decide +kernel)))
theorem me_b32_3 {w : World} (hT : PrT w) : meT.xc b32 3 10 = -5377 := by
  unfold TV.xc TV.X; rw [me_tp]; exact me_ok.x_is pure32 (a := 9) (b := 10) (by decide) (by decide) hT (v := v3 (4) (-4) (1)) (fun j hj => by unfold TP.x TP.b; rw [me_b9_10 j hj]; revert j; decide) me_x1_lo me_x1_hi
theorem me_b4_8 : ∀ j, j < 6 → fol (meP.y 4 8) meP.D j = v3 (-8) (0) (4) j := fol_v3 (k := 0) (a := -8) (b := 0) (c := 4) (fun j hj => by unfold TP.y TP.n; rw [me_n4 j hj, me_n8 j hj]; revert j; decide) (flo_nat (0) (-8) (0) (4) (fun j hj => by unfold TP.y TP.n; rw [me_n4 j hj, me_n8 j hj]; revert j; decide) (by decide) (TT_nat 0 0 (e3 0 0 4) (e3 8 0 0) (by decide) (by decide) (by decide +kernel)) (SS_nat 4 0 (e3 0 0 4) (e3 8 0 0) (by decide) (by decide) (by decide +kernel)))
theorem me_b54_4 {w : World} (hT : PrT w) : meT.xc b54 4 8 = 0 := by
  unfold TV.xc TV.X; rw [me_tp]; exact me_ok.x_is pure54 (a := 4) (b := 8) (by decide) (by decide) hT (v := v3 (0) (0) (0)) (fun j hj => by unfold TP.x TP.b; rw [me_b4_8 j hj]; revert j; decide) me_x0_lo me_x0_hi
theorem me_n5 : ∀ j, j < 6 → fol (meP.S 5) meP.D j = v3 (-8) (0) (5) j := fol_v3 (k := 2) (a := 0) (b := 0) (c := 5) (by decide +kernel) (flo_nat (2) (0) (0) (5) (by decide +kernel) (by decide) (TT_nat 8 0 (e3 0 0 5) (e3 0 0 0) (by decide) (by decide) (by decide +kernel)) (SS_nat 12 0 (e3 0 0 5) (e3 0 0 0) (by decide) (by decide) (by decide +kernel)))
theorem me_b4_5 : ∀ j, j < 6 → fol (meP.y 4 5) meP.D j = v3 (0) (0) (1) j := fol_v3 (k := 0) (a := 0) (b := 0) (c := 1) (fun j hj => by unfold TP.y TP.n; rw [me_n4 j hj, me_n5 j hj]; revert j; decide) (flo_nat (0) (0) (0) (1) (fun j hj => by unfold TP.y TP.n; rw [me_n4 j hj, me_n5 j hj]; revert j; decide) (by decide) (TT_nat 0 0 (e3 0 0 1) (e3 0 0 0) (by decide) (by decide) (by decide +kernel)) (SS_nat 4 0 (e3 0 0 1) (e3 0 0 0) (by decide) (by decide) (by decide +kernel)))
theorem me_b32_4 {w : World} (hT : PrT w) : meT.xc b32 4 11 = -5377 := by
  unfold TV.xc TV.X; rw [me_tp]; exact me_ok.x_is pure32 (a := 4) (b := 5) (by decide) (by decide) hT (v := v3 (4) (-4) (1)) (fun j hj => by unfold TP.x TP.b; rw [me_b4_5 j hj]; revert j; decide) me_x1_lo me_x1_hi
theorem me_b11_3 : ∀ j, j < 6 → fol (meP.y 11 3) meP.D j = v3 (-8) (0) (4) j := fol_v3 (k := 0) (a := -8) (b := 0) (c := 4) (fun j hj => by unfold TP.y TP.n; rw [me_n11 j hj, me_n3 j hj]; revert j; decide) (flo_nat (0) (-8) (0) (4) (fun j hj => by unfold TP.y TP.n; rw [me_n11 j hj, me_n3 j hj]; revert j; decide) (by decide) (TT_nat 0 0 (e3 0 0 4) (e3 8 0 0) (by decide) (by decide) (by decide +kernel)) (SS_nat 4 0 (e3 0 0 4) (e3 8 0 0) (by decide) (by decide) (by decide +kernel)))
theorem me_b54_5 {w : World} (hT : PrT w) : meT.xc b54 5 9 = 0 := by
  unfold TV.xc TV.X; rw [me_tp]; exact me_ok.x_is pure54 (a := 11) (b := 3) (by decide) (by decide) hT (v := v3 (0) (0) (0)) (fun j hj => by unfold TP.x TP.b; rw [me_b11_3 j hj]; revert j; decide) me_x0_lo me_x0_hi
theorem me_b11_0 : ∀ j, j < 6 → fol (meP.y 11 0) meP.D j = v3 (0) (0) (1) j := fol_v3 (k := -1) (a := -4) (b := 0) (c := 1) (fun j hj => by unfold TP.y TP.n; rw [me_n11 j hj, me_n0 j hj]; revert j; decide) (flo_nat (-1) (-4) (0) (1) (fun j hj => by unfold TP.y TP.n; rw [me_n11 j hj, me_n0 j hj]; revert j; decide) (by decide) (TT_nat 0 4 (e3 0 0 1) (e3 4 0 0) (by decide) (by decide) (by decide +kernel)) (SS_nat 0 0 (e3 0 0 1) (e3 4 0 0) (by decide) (by decide) (by decide +kernel)))
theorem me_b32_5 {w : World} (hT : PrT w) : meT.xc b32 5 12 = -5377 := by
  unfold TV.xc TV.X; rw [me_tp]; exact me_ok.x_is pure32 (a := 11) (b := 0) (by decide) (by decide) hT (v := v3 (4) (-4) (1)) (fun j hj => by unfold TP.x TP.b; rw [me_b11_0 j hj]; revert j; decide) me_x1_lo me_x1_hi
theorem me_b6_10 : ∀ j, j < 6 → fol (meP.y 6 10) meP.D j = v3 (20) (0) (-8) j := fol_v3 (k := 0) (a := 20) (b := 0) (c := -8) (fun j hj => by unfold TP.y TP.n; rw [me_n6 j hj, me_n10 j hj]; revert j; decide) (flo_nat (0) (20) (0) (-8) (fun j hj => by unfold TP.y TP.n; rw [me_n6 j hj, me_n10 j hj]; revert j; decide) (by decide) (TT_nat 0 0 (e3 20 0 0) (e3 0 0 8) (by decide) (by decide) (by decide +kernel)) (SS_nat 4 0 (e3 20 0 0) (e3 0 0 8) (by decide) (by decide) (by decide +kernel)))
theorem me_b54_6 {w : World} (hT : PrT w) : meT.xc b54 6 10 = 41058 := by
  unfold TV.xc TV.X; rw [me_tp]; exact me_ok.x_is pure54 (a := 6) (b := 10) (by decide) (by decide) hT (v := v3 (28) (0) (-12)) (fun j hj => by unfold TP.x TP.b; rw [me_b6_10 j hj]; revert j; decide) me_x2_lo me_x2_hi
theorem me_b6_7 : ∀ j, j < 6 → fol (meP.y 6 7) meP.D j = v3 (0) (0) (1) j := fol_v3 (k := -1) (a := -4) (b := 0) (c := 1) (fun j hj => by unfold TP.y TP.n; rw [me_n6 j hj, me_n7 j hj]; revert j; decide) (flo_nat (-1) (-4) (0) (1) (fun j hj => by unfold TP.y TP.n; rw [me_n6 j hj, me_n7 j hj]; revert j; decide) (by decide) (TT_nat 0 4 (e3 0 0 1) (e3 4 0 0) (by decide) (by decide) (by decide +kernel)) (SS_nat 0 0 (e3 0 0 1) (e3 4 0 0) (by decide) (by decide) (by decide +kernel)))
theorem me_b32_6 {w : World} (hT : PrT w) : meT.xc b32 6 13 = -5377 := by
  unfold TV.xc TV.X; rw [me_tp]; exact me_ok.x_is pure32 (a := 6) (b := 7) (by decide) (by decide) hT (v := v3 (4) (-4) (1)) (fun j hj => by unfold TP.x TP.b; rw [me_b6_7 j hj]; revert j; decide) me_x1_lo me_x1_hi
theorem me_b1_5 : ∀ j, j < 6 → fol (meP.y 1 5) meP.D j = v3 (-8) (0) (4) j := fol_v3 (k := 0) (a := -8) (b := 0) (c := 4) (fun j hj => by unfold TP.y TP.n; rw [me_n1 j hj, me_n5 j hj]; revert j; decide) (flo_nat (0) (-8) (0) (4) (fun j hj => by unfold TP.y TP.n; rw [me_n1 j hj, me_n5 j hj]; revert j; decide) (by decide) (TT_nat 0 0 (e3 0 0 4) (e3 8 0 0) (by decide) (by decide) (by decide +kernel)) (SS_nat 4 0 (e3 0 0 4) (e3 8 0 0) (by decide) (by decide) (by decide +kernel)))
theorem me_b54_7 {w : World} (hT : PrT w) : meT.xc b54 7 11 = 0 := by
  unfold TV.xc TV.X; rw [me_tp]; exact me_ok.x_is pure54 (a := 1) (b := 5) (by decide) (by decide) hT (v := v3 (0) (0) (0)) (fun j hj => by unfold TP.x TP.b; rw [me_b1_5 j hj]; revert j; decide) me_x0_lo me_x0_hi
theorem me_b1_2 : ∀ j, j < 6 → fol (meP.y 1 2) meP.D j = v3 (0) (0) (1) j := fol_v3 (k := -1) (a := -4) (b := 0) (c := 1) (fun j hj => by unfold TP.y TP.n; rw [me_n1 j hj, me_n2 j hj]; revert j; decide) (flo_nat (-1) (-4) (0) (1) (fun j hj => by unfold TP.y TP.n; rw [me_n1 j hj, me_n2 j hj]; revert j; decide) (by decide) (TT_nat 0 4 (e3 0 0 1) (e3 4 0 0) (by decide) (by decide) (by decide +kernel)) (SS_nat 0 0 (e3 0 0 1) (e3 4 0 0) (by decide) (by decide) (by decide +kernel)))
theorem me_b32_7 {w : World} (hT : PrT w) : meT.xc b32 7 14 = -5377 := by
  unfold TV.xc TV.X; rw [me_tp]; exact me_ok.x_is pure32 (a := 1) (b := 2) (by decide) (by decide) hT (v := v3 (4) (-4) (1)) (fun j hj => by unfold TP.x TP.b; rw [me_b1_2 j hj]; revert j; decide) me_x1_lo me_x1_hi
theorem me_b8_0 : ∀ j, j < 6 → fol (meP.y 8 0) meP.D j = v3 (20) (0) (-8) j := fol_v3 (k := -1) (a := 16) (b := 0) (c := -8) (fun j hj => by unfold TP.y TP.n; rw [me_n8 j hj, me_n0 j hj]; revert j; decide) (flo_nat (-1) (16) (0) (-8) (fun j hj => by unfold TP.y TP.n; rw [me_n8 j hj, me_n0 j hj]; revert j; decide) (by decide) (TT_nat 0 4 (e3 16 0 0) (e3 0 0 8) (by decide) (by decide) (by decide +kernel)) (SS_nat 0 0 (e3 16 0 0) (e3 0 0 8) (by decide) (by decide) (by decide +kernel)))
theorem me_b54_8 {w : World} (hT : PrT w) : meT.xc b54 8 12 = 41058 := by
  unfold TV.xc TV.X; rw [me_tp]; exact me_ok.x_is pure54 (a := 8) (b := 0) (by decide) (by decide) hT (v := v3 (28) (0) (-12)) (fun j hj => by unfold TP.x TP.b; rw [me_b8_0 j hj]; revert j; decide) me_x2_lo me_x2_hi
theorem me_b8_9 : ∀ j, j < 6 → fol (meP.y 8 9) meP.D j = v3 (28) (0) (-11) j := fol_v3 (k := -1) (a := 24) (b := 0) (c := -11) (fun j hj => by unfold TP.y TP.n; rw [me_n8 j hj, me_n9 j hj]; revert j; decide) (flo_nat (-1) (24) (0) (-11) (fun j hj => by unfold TP.y TP.n; rw [me_n8 j hj, me_n9 j hj]; revert j; decide) (by decide) (TT_nat 0 4 (e3 24 0 0) (e3 0 0 11) (by decide) (by decide) (by decide +kernel)) (SS_nat 0 0 (e3 24 0 0) (e3 0 0 11) (by decide) (by decide) (by decide +kernel)))
theorem me_x3_lo : TT (35682 * 4) (fun j => v3 (32) (-4) (-11) j * 1200000) := cents_lo (z := v3 (32) (-4) (-11)) (D := 4) (m := 35682) (p := 211) (q := 1774) (by decide) (TT_nat 211 0 (e3 56768 0 0) (e3 0 7096 19514) (by decide) (by decide) (by decide +kernel)) (by decide)
theorem me_x3_hi : SS ((35682 + 1) * 4) (fun j => v3 (32) (-4) (-11) j * 1200000) := cents_hi (z := v3 (32) (-4) (-11)) (D := 4) (m := 35682) (p := 27) (q := 227) (SS_nat 27 0 (e3 7264 0 0) (e3 0 908 2497) (by decide) (by decide) (by decide +kernel)) (by decide)
theorem me_b32_8 {w : World} (hT : PrT w) : meT.xc b32 8 15 = 35682 := by
  unfold TV.xc TV.X; rw [me_tp]; exact me_ok.x_is pure32 (a := 8) (b := 9) (by decide) (by decide) hT (v := v3 (32) (-4) (-11)) (fun j hj => by unfold TP.x TP.b; rw [me_b8_9 j hj]; revert j; decide) me_x3_lo me_x3_hi
theorem me_b3_7 : ∀ j, j < 6 → fol (meP.y 3 7) meP.D j = v3 (-8) (0) (4) j := fol_v3 (k := -1) (a := -12) (b := 0) (c := 4) (fun j hj => by unfold TP.y TP.n; rw [me_n3 j hj, me_n7 j hj]; revert j; decide) (flo_nat (-1) (-12) (0) (4) (fun j hj => by unfold TP.y TP.n; rw [me_n3 j hj, me_n7 j hj]; revert j; decide) (by decide) (TT_nat 0 4 (e3 0 0 4) (e3 12 0 0) (by decide) (by decide) (by decide +kernel)) (SS_nat 0 0 (e3 0 0 4) (e3 12 0 0) (by decide) (by decide) (by decide +kernel)))
theorem me_b54_9 {w : World} (hT : PrT w) : meT.xc b54 9 13 = 0 := by
  unfold TV.xc TV.X; rw [me_tp]; exact me_ok.x_is pure54 (a := 3) (b := 7) (by decide) (by decide) hT (v := v3 (0) (0) (0)) (fun j hj => by unfold TP.x TP.b; rw [me_b3_7 j hj]; revert j; decide) me_x0_lo me_x0_hi
theorem me_b3_4 : ∀ j, j < 6 → fol (meP.y 3 4) meP.D j = v3 (0) (0) (1) j := fol_v3 (k := -1) (a := -4) (b := 0) (c := 1) (fun j hj => by unfold TP.y TP.n; rw [me_n3 j hj, me_n4 j hj]; revert j; decide) (flo_nat (-1) (-4) (0) (1) (fun j hj => by unfold TP.y TP.n; rw [me_n3 j hj, me_n4 j hj]; revert j; decide) (by decide) (TT_nat 0 4 (e3 0 0 1) (e3 4 0 0) (by decide) (by decide) (by decide +kernel)) (SS_nat 0 0 (e3 0 0 1) (e3 4 0 0) (by decide) (by decide) (by decide +kernel)))
theorem me_b32_9 {w : World} (hT : PrT w) : meT.xc b32 9 16 = -5377 := by
  unfold TV.xc TV.X; rw [me_tp]; exact me_ok.x_is pure32 (a := 3) (b := 4) (by decide) (by decide) hT (v := v3 (4) (-4) (1)) (fun j hj => by unfold TP.x TP.b; rw [me_b3_4 j hj]; revert j; decide) me_x1_lo me_x1_hi
theorem me_b10_2 : ∀ j, j < 6 → fol (meP.y 10 2) meP.D j = v3 (-8) (0) (4) j := fol_v3 (k := -1) (a := -12) (b := 0) (c := 4) (fun j hj => by unfold TP.y TP.n; rw [me_n10 j hj, me_n2 j hj]; revert j; decide) (flo_nat (-1) (-12) (0) (4) (fun j hj => by unfold TP.y TP.n; rw [me_n10 j hj, me_n2 j hj]; revert j; decide) (by decide) (TT_nat 0 4 (e3 0 0 4) (e3 12 0 0) (by decide) (by decide) (by decide +kernel)) (SS_nat 0 0 (e3 0 0 4) (e3 12 0 0) (by decide) (by decide) (by decide +kernel)))
theorem me_b54_10 {w : World} (hT : PrT w) : meT.xc b54 10 14 = 0 := by
  unfold TV.xc TV.X; rw [me_tp]; exact me_ok.x_is pure54 (a := 10) (b := 2) (by decide) (by decide) hT (v := v3 (0) (0) (0)) (fun j hj => by unfold TP.x TP.b; rw [me_b10_2 j hj]; revert j; decide) me_x0_lo me_x0_hi
theorem me_b10_11 : ∀ j, j < 6 → fol (meP.y 10 11) meP.D j = v3 (0) (0) (1) j := fol_v3 (k := -1) (a := -4) (b := 0) (c := 1) (fun j hj => by unfold TP.y TP.n; rw [me_n10 j hj, me_n11 j hj]; revert j; decide) (flo_nat (-1) (-4) (0) (1) (fun j hj => by unfold TP.y TP.n; rw [me_n10 j hj, me_n11 j hj]; revert j; decide) (by decide) (TT_nat 0 4 (e3 0 0 1) (e3 4 0 0) (by decide) (by decide) (by decide +kernel)) (SS_nat 0 0 (e3 0 0 1) (e3 4 0 0) (by decide) (by decide) (by decide +kernel)))
theorem me_b32_10 {w : World} (hT : PrT w) : meT.xc b32 10 17 = -5377 := by
  unfold TV.xc TV.X; rw [me_tp]; exact me_ok.x_is pure32 (a := 10) (b := 11) (by decide) (by decide) hT (v := v3 (4) (-4) (1)) (fun j hj => by unfold TP.x TP.b; rw [me_b10_11 j hj]; revert j; decide) me_x1_lo me_x1_hi
theorem me_b5_9 : ∀ j, j < 6 → fol (meP.y 5 9) meP.D j = v3 (20) (0) (-8) j := fol_v3 (k := -1) (a := 16) (b := 0) (c := -8) (fun j hj => by unfold TP.y TP.n; rw [me_n5 j hj, me_n9 j hj]; revert j; decide) (flo_nat (-1) (16) (0) (-8) (fun j hj => by unfold TP.y TP.n; rw [me_n5 j hj, me_n9 j hj]; revert j; decide) (by decide) (TT_nat 0 4 (e3 16 0 0) (e3 0 0 8) (by decide) (by decide) (by decide +kernel)) (SS_nat 0 0 (e3 16 0 0) (e3 0 0 8) (by decide) (by decide) (by decide +kernel)))
theorem me_b54_11 {w : World} (hT : PrT w) : meT.xc b54 11 15 = 41058 := by
  unfold TV.xc TV.X; rw [me_tp]; exact me_ok.x_is pure54 (a := 5) (b := 9) (by decide) (by decide) hT (v := v3 (28) (0) (-12)) (fun j hj => by unfold TP.x TP.b; rw [me_b5_9 j hj]; revert j; decide) me_x2_lo me_x2_hi
theorem me_b5_6 : ∀ j, j < 6 → fol (meP.y 5 6) meP.D j = v3 (0) (0) (1) j := fol_v3 (k := -1) (a := -4) (b := 0) (c := 1) (fun j hj => by unfold TP.y TP.n; rw [me_n5 j hj, me_n6 j hj]; revert j; decide) (flo_nat (-1) (-4) (0) (1) (fun j hj => by unfold TP.y TP.n; rw [me_n5 j hj, me_n6 j hj]; revert j; decide) (by decide) (TT_nat 0 4 (e3 0 0 1) (e3 4 0 0) (by decide) (by decide) (by decide +kernel)) (SS_nat 0 0 (e3 0 0 1) (e3 4 0 0) (by decide) (by decide) (by decide +kernel)))
theorem me_b32_11 {w : World} (hT : PrT w) : meT.xc b32 11 18 = -5377 := by
  unfold TV.xc TV.X; rw [me_tp]; exact me_ok.x_is pure32 (a := 5) (b := 6) (by decide) (by decide) hT (v := v3 (4) (-4) (1)) (fun j hj => by unfold TP.x TP.b; rw [me_b5_6 j hj]; revert j; decide) me_x1_lo me_x1_hi
theorem eq_n0 : ∀ j, j < 6 → fol (eqP.S 0) eqP.D j = v3 (0) (0) (0) j := fol_v3 (k := 0) (a := 0) (b := 0) (c := 0) (by decide +kernel) (flo_nat (0) (0) (0) (0) (by decide +kernel) (by decide) (TT_nat 0 0 (e3 0 0 0) (e3 0 0 0) (by decide) (by decide) (by decide +kernel)) (SS_nat 12 0 (e3 0 0 0) (e3 0 0 0) (by decide) (by decide) (by decide +kernel)))
theorem eq_b0_1 : ∀ j, j < 6 → fol (eqP.y 0 1) eqP.D j = v3 (7) (0) (0) j := fol_v3 (k := 0) (a := 7) (b := 0) (c := 0) (fun j hj => by unfold TP.y TP.n; rw [eq_n0 j hj, eq_n1 j hj]; revert j; decide) (flo_nat (0) (7) (0) (0) (fun j hj => by unfold TP.y TP.n; rw [eq_n0 j hj, eq_n1 j hj]; revert j; decide) (by decide) (TT_nat 0 0 (e3 7 0 0) (e3 0 0 0) (by decide) (by decide) (by decide +kernel)) (SS_nat 12 0 (e3 7 0 0) (e3 0 0 0) (by decide) (by decide) (by decide +kernel)))
theorem eq_x4_lo : TT (-1956 * 12) (fun j => v3 (19) (-12) (0) j * 1200000) := cents_lo (z := v3 (19) (-12) (0)) (D := 12) (m := -1956) (p := -7) (q := 358) (by decide) (TT_nat 0 7 (e3 6802 0 0) (e3 0 4296 0) (by decide) (by decide) (by decide +kernel)) (by decide)
theorem eq_x4_hi : SS ((-1956 + 1) * 12) (fun j => v3 (19) (-12) (0) j * 1200000) := cents_hi (z := v3 (19) (-12) (0)) (D := 12) (m := -1956) (p := -285) (q := 14578) (SS_nat 0 285 (e3 276982 0 0) (e3 0 174936 0) (by decide) (by decide) (by decide +kernel)) (by decide)
theorem eq_b32_0 {w : World} (hT : PrT w) : eqT.xc b32 0 7 = -1956 := by
  unfold TV.xc TV.X; rw [eq_tp]; exact eq_ok.x_is pure32 (a := 0) (b := 1) (by decide) (by decide) hT (v := v3 (19) (-12) (0)) (fun j hj => by unfold TP.x TP.b; rw [eq_b0_1 j hj]; revert j; decide) eq_x4_lo eq_x4_hi
theorem eq_n7 : ∀ j, j < 6 → fol (eqP.S 7) eqP.D j = v3 (1) (0) (0) j := fol_v3 (k := 4) (a := 49) (b := 0) (c := 0) (by decide +kernel) (flo_nat (4) (49) (0) (0) (by decide +kernel) (by decide) (TT_nat 48 0 (e3 49 0 0) (e3 0 0 0) (by decide) (by decide) (by decide +kernel)) (SS_nat 60 0 (e3 49 0 0) (e3 0 0 0) (by decide) (by decide) (by decide +kernel)))
theorem eq_n8 : ∀ j, j < 6 → fol (eqP.S 8) eqP.D j = v3 (8) (0) (0) j := fol_v3 (k := 4) (a := 56) (b := 0) (c := 0) (by decide +kernel) (flo_nat (4) (56) (0) (0) (by decide +kernel) (by decide) (TT_nat 48 0 (e3 56 0 0) (e3 0 0 0) (by decide) (by decide) (by decide +kernel)) (SS_nat 60 0 (e3 56 0 0) (e3 0 0 0) (by decide) (by decide) (by decide +kernel)))
theorem eq_b7_8 : ∀ j, j < 6 → fol (eqP.y 7 8) eqP.D j = v3 (7) (0) (0) j := fol_v3 (k := 0) (a := 7) (b := 0) (c := 0) (fun j hj => by unfold TP.y TP.n; rw [eq_n7 j hj, eq_n8 j hj]; revert j; decide) (flo_nat (0) (7) (0) (0) (fun j hj => by unfold TP.y TP.n; rw [eq_n7 j hj, eq_n8 j hj]; revert j; decide) (by decide) (TT_nat 0 0 (e3 7 0 0) (e3 0 0 0) (by decide) (by decide) (by decide +kernel)) (SS_nat 12 0 (e3 7 0 0) (e3 0 0 0) (by decide) (by decide) (by decide +kernel)))
theorem eq_b32_1 {w : World} (hT : PrT w) : eqT.xc b32 1 8 = -1956 := by
  unfold TV.xc TV.X; rw [eq_tp]; exact eq_ok.x_is pure32 (a := 7) (b := 8) (by decide) (by decide) hT (v := v3 (19) (-12) (0)) (fun j hj => by unfold TP.x TP.b; rw [eq_b7_8 j hj]; revert j; decide) eq_x4_lo eq_x4_hi
theorem eq_n2 : ∀ j, j < 6 → fol (eqP.S 2) eqP.D j = v3 (2) (0) (0) j := fol_v3 (k := 1) (a := 14) (b := 0) (c := 0) (by decide +kernel) (flo_nat (1) (14) (0) (0) (by decide +kernel) (by decide) (TT_nat 12 0 (e3 14 0 0) (e3 0 0 0) (by decide) (by decide) (by decide +kernel)) (SS_nat 24 0 (e3 14 0 0) (e3 0 0 0) (by decide) (by decide) (by decide +kernel)))
theorem eq_n3 : ∀ j, j < 6 → fol (eqP.S 3) eqP.D j = v3 (9) (0) (0) j := fol_v3 (k := 1) (a := 21) (b := 0) (c := 0) (by decide +kernel) (flo_nat (1) (21) (0) (0) (by decide +kernel) (by decide) (TT_nat 12 0 (e3 21 0 0) (e3 0 0 0) (by decide) (by decide) (by decide +kernel)) (SS_nat 24 0 (e3 21 0 0) (e3 0 0 0) (by decide) (by decide) (by decide +kernel)))
theorem eq_b2_3 : ∀ j, j < 6 → fol (eqP.y 2 3) eqP.D j = v3 (7) (0) (0) j := fol_v3 (k := 0) (a := 7) (b := 0) (c := 0) (fun j hj => by unfold TP.y TP.n; rw [eq_n2 j hj, eq_n3 j hj]; revert j; decide) (flo_nat (0) (7) (0) (0) (fun j hj => by unfold TP.y TP.n; rw [eq_n2 j hj, eq_n3 j hj]; revert j; decide) (by decide) (TT_nat 0 0 (e3 7 0 0) (e3 0 0 0) (by decide) (by decide) (by decide +kernel)) (SS_nat 12 0 (e3 7 0 0) (e3 0 0 0) (by decide) (by decide) (by decide +kernel)))
theorem eq_b32_2 {w : World} (hT : PrT w) : eqT.xc b32 2 9 = -1956 := by
  unfold TV.xc TV.X; rw [eq_tp]; exact eq_ok.x_is pure32 (a := 2) (b := 3) (by decide) (by decide) hT (v := v3 (19) (-12) (0)) (fun j hj => by unfold TP.x TP.b; rw [eq_b2_3 j hj]; revert j; decide) eq_x4_lo eq_x4_hi
theorem eq_n9 : ∀ j, j < 6 → fol (eqP.S 9) eqP.D j = v3 (3) (0) (0) j := fol_v3 (k := 5) (a := 63) (b := 0) (c := 0) (by decide +kernel) (flo_nat (5) (63) (0) (0) (by decide +kernel) (by decide) (TT_nat 60 0 (e3 63 0 0) (e3 0 0 0) (by decide) (by decide) (by decide +kernel)) (SS_nat 72 0 (e3 63 0 0) (e3 0 0 0) (by decide) (by decide) (by decide +kernel)))
theorem eq_n10 : ∀ j, j < 6 → fol (eqP.S 10) eqP.D j = v3 (10) (0) (0) j := fol_v3 (k := 5) (a := 70) (b := 0) (c := 0) (by decide +kernel) (flo_nat (5) (70) (0) (0) (by decide +kernel) (by decide) (TT_nat 60 0 (e3 70 0 0) (e3 0 0 0) (by decide) (by decide) (by decide +kernel)) (SS_nat 72 0 (e3 70 0 0) (e3 0 0 0) (by decide) (by decide) (by decide +kernel)))
theorem eq_b9_10 : ∀ j, j < 6 → fol (eqP.y 9 10) eqP.D j = v3 (7) (0) (0) j := fol_v3 (k := 0) (a := 7) (b := 0) (c := 0) (fun j hj => by unfold TP.y TP.n; rw [eq_n9 j hj, eq_n10 j hj]; revert j; decide) (flo_nat (0) (7) (0) (0) (fun j hj => by unfold TP.y TP.n; rw [eq_n9 j hj, eq_n10 j hj]; revert j; decide) (by decide) (TT_nat 0 0 (e3 7 0 0) (e3 0 0 0) (by decide) (by decide) (by decide +kernel)) (SS_nat 12 0 (e3 7 0 0) (e3 0 0 0) (by decide) (by decide) (by decide +kernel)))
theorem eq_b32_3 {w : World} (hT : PrT w) : eqT.xc b32 3 10 = -1956 := by
  unfold TV.xc TV.X; rw [eq_tp]; exact eq_ok.x_is pure32 (a := 9) (b := 10) (by decide) (by decide) hT (v := v3 (19) (-12) (0)) (fun j hj => by unfold TP.x TP.b; rw [eq_b9_10 j hj]; revert j; decide) eq_x4_lo eq_x4_hi
theorem eq_n4 : ∀ j, j < 6 → fol (eqP.S 4) eqP.D j = v3 (4) (0) (0) j := fol_v3 (k := 2) (a := 28) (b := 0) (c := 0) (by decide +kernel) (flo_nat (2) (28) (0) (0) (by decide +kernel) (by decide) (TT_nat 24 0 (e3 28 0 0) (e3 0 0 0) (by decide) (by decide) (by decide +kernel)) (SS_nat 36 0 (e3 28 0 0) (e3 0 0 0) (by decide) (by decide) (by decide +kernel)))
theorem eq_n5 : ∀ j, j < 6 → fol (eqP.S 5) eqP.D j = v3 (11) (0) (0) j := fol_v3 (k := 2) (a := 35) (b := 0) (c := 0) (by decide +kernel) (flo_nat (2) (35) (0) (0) (by decide +kernel) (by decide) (TT_nat 24 0 (e3 35 0 0) (e3 0 0 0) (by decide) (by decide) (by decide +kernel)) (SS_nat 36 0 (e3 35 0 0) (e3 0 0 0) (by decide) (by decide) (by decide +kernel)))
theorem eq_b4_5 : ∀ j, j < 6 → fol (eqP.y 4 5) eqP.D j = v3 (7) (0) (0) j := fol_v3 (k := 0) (a := 7) (b := 0) (c := 0) (fun j hj => by unfold TP.y TP.n; rw [eq_n4 j hj, eq_n5 j hj]; revert j; decide) (flo_nat (0) (7) (0) (0) (fun j hj => by unfold TP.y TP.n; rw [eq_n4 j hj, eq_n5 j hj]; revert j; decide) (by decide) (TT_nat 0 0 (e3 7 0 0) (e3 0 0 0) (by decide) (by decide) (by decide +kernel)) (SS_nat 12 0 (e3 7 0 0) (e3 0 0 0) (by decide) (by decide) (by decide +kernel)))
theorem eq_b32_4 {w : World} (hT : PrT w) : eqT.xc b32 4 11 = -1956 := by
  unfold TV.xc TV.X; rw [eq_tp]; exact eq_ok.x_is pure32 (a := 4) (b := 5) (by decide) (by decide) hT (v := v3 (19) (-12) (0)) (fun j hj => by unfold TP.x TP.b; rw [eq_b4_5 j hj]; revert j; decide) eq_x4_lo eq_x4_hi
theorem eq_n11 : ∀ j, j < 6 → fol (eqP.S 11) eqP.D j = v3 (5) (0) (0) j := fol_v3 (k := 6) (a := 77) (b := 0) (c := 0) (by decide +kernel) (flo_nat (6) (77) (0) (0) (by decide +kernel) (by decide) (TT_nat 72 0 (e3 77 0 0) (e3 0 0 0) (by decide) (by decide) (by decide +kernel)) (SS_nat 84 0 (e3 77 0 0) (e3 0 0 0) (by decide) (by decide) (by decide +kernel)))
theorem eq_b11_0 : ∀ j, j < 6 → fol (eqP.y 11 0) eqP.D j = v3 (7) (0) (0) j := fol_v3 (k := -1) (a := -5) (b := 0) (c := 0) (fun j hj => by unfold TP.y TP.n; rw [eq_n11 j hj, eq_n0 j hj]; revert j; decide) (flo_nat (-1) (-5) (0) (0) (fun j hj => by unfold TP.y TP.n; rw [eq_n11 j hj, eq_n0 j hj]; revert j; decide) (by decide) (TT_nat 0 12 (e3 0 0 0) (e3 5 0 0) (by decide) (by decide) (by decide +kernel)) (SS_nat 0 0 (e3 0 0 0) (e3 5 0 0) (by decide) (by decide) (by decide +kernel)))
theorem eq_b32_5 {w : World} (hT : PrT w) : eqT.xc b32 5 12 = -1956 := by
  unfold TV.xc TV.X; rw [eq_tp]; exact eq_ok.x_is pure32 (a := 11) (b := 0) (by decide) (by decide) hT (v := v3 (19) (-12) (0)) (fun j hj => by unfold TP.x TP.b; rw [eq_b11_0 j hj]; revert j; decide) eq_x4_lo eq_x4_hi
theorem eq_n6 : ∀ j, j < 6 → fol (eqP.S 6) eqP.D j = v3 (6) (0) (0) j := fol_v3 (k := 3) (a := 42) (b := 0) (c := 0) (by decide +kernel) (flo_nat (3) (42) (0) (0) (by decide +kernel) (by decide) (TT_nat 36 0 (e3 42 0 0) (e3 0 0 0) (by decide) (by decide) (by decide +kernel)) (SS_nat 48 0 (e3 42 0 0) (e3 0 0 0) (by decide) (by decide) (by decide +kernel)))
theorem eq_b6_7 : ∀ j, j < 6 → fol (eqP.y 6 7) eqP.D j = v3 (7) (0) (0) j := fol_v3 (k := -1) (a := -5) (b := 0) (c := 0) (fun j hj => by unfold TP.y TP.n; rw [eq_n6 j hj, eq_n7 j hj]; revert j; decide) (flo_nat (-1) (-5) (0) (0) (fun j hj => by unfold TP.y TP.n; rw [eq_n6 j hj, eq_n7 j hj]; revert j; decide) (by decide) (TT_nat 0 12 (e3 0 0 0) (e3 5 0 0) (by decide) (by decide) (by decide +kernel)) (SS_nat 0 0 (e3 0 0 0) (e3 5 0 0) (by decide) (by decide) (by decide +kernel)))
theorem eq_b32_6 {w : World} (hT : PrT w) : eqT.xc b32 6 13 = -1956 := by
  unfold TV.xc TV.X; rw [eq_tp]; exact eq_ok.x_is pure32 (a := 6) (b := 7) (by decide) (by decide) hT (v := v3 (19) (-12) (0)) (fun j hj => by unfold TP.x TP.b; rw [eq_b6_7 j hj]; revert j; decide) eq_x4_lo eq_x4_hi
theorem eq_b1_2 : ∀ j, j < 6 → fol (eqP.y 1 2) eqP.D j = v3 (7) (0) (0) j := fol_v3 (k := -1) (a := -5) (b := 0) (c := 0) (fun j hj => by unfold TP.y TP.n; rw [eq_n1 j hj, eq_n2 j hj]; revert j; decide) (flo_nat (-1) (-5) (0) (0) (fun j hj => by unfold TP.y TP.n; rw [eq_n1 j hj, eq_n2 j hj]; revert j; decide) (by decide) (TT_nat 0 12 (e3 0 0 0) (e3 5 0 0) (by decide) (by decide) (by decide +kernel)) (SS_nat 0 0 (e3 0 0 0) (e3 5 0 0) (by decide) (by decide) (by decide +kernel)))
theorem eq_b32_7 {w : World} (hT : PrT w) : eqT.xc b32 7 14 = -1956 := by
  unfold TV.xc TV.X; rw [eq_tp]; exact eq_ok.x_is pure32 (a := 1) (b := 2) (by decide) (by decide) hT (v := v3 (19) (-12) (0)) (fun j hj => by unfold TP.x TP.b; rw [eq_b1_2 j hj]; revert j; decide) eq_x4_lo eq_x4_hi
theorem eq_b8_9 : ∀ j, j < 6 → fol (eqP.y 8 9) eqP.D j = v3 (7) (0) (0) j := fol_v3 (k := -1) (a := -5) (b := 0) (c := 0) (fun j hj => by unfold TP.y TP.n; rw [eq_n8 j hj, eq_n9 j hj]; revert j; decide) (flo_nat (-1) (-5) (0) (0) (fun j hj => by unfold TP.y TP.n; rw [eq_n8 j hj, eq_n9 j hj]; revert j; decide) (by decide) (TT_nat 0 12 (e3 0 0 0) (e3 5 0 0) (by decide) (by decide) (by decide +kernel)) (SS_nat 0 0 (e3 0 0 0) (e3 5 0 0) (by decide) (by decide) (by decide +kernel)))
theorem eq_b32_8 {w : World} (hT : PrT w) : eqT.xc b32 8 15 = -1956 := by
  unfold TV.xc TV.X; rw [eq_tp]; exact eq_ok.x_is pure32 (a := 8) (b := 9) (by decide) (by decide) hT (v := v3 (19) (-12) (0)) (fun j hj => by unfold TP.x TP.b; rw [eq_b8_9 j hj]; revert j; decide) eq_x4_lo eq_x4_hi
theorem eq_b3_4 : ∀ j, j < 6 → fol (eqP.y 3 4) eqP.D j = v3 (7) (0) (0) j := fol_v3 (k := -1) (a := -5) (b := 0) (c := 0) (fun j hj => by unfold TP.y TP.n; rw [eq_n3 j hj, eq_n4 j hj]; revert j; decide) (flo_nat (-1) (-5) (0) (0) (fun j hj => by unfold TP.y TP.n; rw [eq_n3 j hj, eq_n4 j hj]; revert j; decide) (by decide) (TT_nat 0 12 (e3 0 0 0) (e3 5 0 0) (by decide) (by decide) (by decide +kernel)) (SS_nat 0 0 (e3 0 0 0) (e3 5 0 0) (by decide) (by decide) (by decide +kernel)))
theorem eq_b32_9 {w : World} (hT : PrT w) : eqT.xc b32 9 16 = -1956 := by
  unfold TV.xc TV.X; rw [eq_tp]; exact eq_ok.x_is pure32 (a := 3) (b := 4) (by decide) (by decide) hT (v := v3 (19) (-12) (0)) (fun j hj => by unfold TP.x TP.b; rw [eq_b3_4 j hj]; revert j; decide) eq_x4_lo eq_x4_hi
theorem eq_b10_11 : ∀ j, j < 6 → fol (eqP.y 10 11) eqP.D j = v3 (7) (0) (0) j := fol_v3 (k := -1) (a := -5) (b := 0) (c := 0) (fun j hj => by unfold TP.y TP.n; rw [eq_n10 j hj, eq_n11 j hj]; revert j; decide) (flo_nat (-1) (-5) (0) (0) (fun j hj => by unfold TP.y TP.n; rw [eq_n10 j hj, eq_n11 j hj]; revert j; decide) (by decide) (TT_nat 0 12 (e3 0 0 0) (e3 5 0 0) (by decide) (by decide) (by decide +kernel)) (SS_nat 0 0 (e3 0 0 0) (e3 5 0 0) (by decide) (by decide) (by decide +kernel)))
theorem eq_b32_10 {w : World} (hT : PrT w) : eqT.xc b32 10 17 = -1956 := by
  unfold TV.xc TV.X; rw [eq_tp]; exact eq_ok.x_is pure32 (a := 10) (b := 11) (by decide) (by decide) hT (v := v3 (19) (-12) (0)) (fun j hj => by unfold TP.x TP.b; rw [eq_b10_11 j hj]; revert j; decide) eq_x4_lo eq_x4_hi
theorem eq_b5_6 : ∀ j, j < 6 → fol (eqP.y 5 6) eqP.D j = v3 (7) (0) (0) j := fol_v3 (k := -1) (a := -5) (b := 0) (c := 0) (fun j hj => by unfold TP.y TP.n; rw [eq_n5 j hj, eq_n6 j hj]; revert j; decide) (flo_nat (-1) (-5) (0) (0) (fun j hj => by unfold TP.y TP.n; rw [eq_n5 j hj, eq_n6 j hj]; revert j; decide) (by decide) (TT_nat 0 12 (e3 0 0 0) (e3 5 0 0) (by decide) (by decide) (by decide +kernel)) (SS_nat 0 0 (e3 0 0 0) (e3 5 0 0) (by decide) (by decide) (by decide +kernel)))
theorem eq_b32_11 {w : World} (hT : PrT w) : eqT.xc b32 11 18 = -1956 := by
  unfold TV.xc TV.X; rw [eq_tp]; exact eq_ok.x_is pure32 (a := 5) (b := 6) (by decide) (by decide) hT (v := v3 (19) (-12) (0)) (fun j hj => by unfold TP.x TP.b; rw [eq_b5_6 j hj]; revert j; decide) eq_x4_lo eq_x4_hi
theorem me_ky {w : World} (hT : PrT w) : ∀ j, j < 12 → meT.ky j = (if j = 8 then 76740 else if j = 1 ∨ j = 6 ∨ j = 11 then 46435 else 5377) := fun j hj => by
  rcases twelve hj with rfl | rfl | rfl | rfl | rfl | rfl | rfl | rfl | rfl | rfl | rfl | rfl
  · unfold TV.ky; rw [me_b54_0 hT, me_b32_0 hT]; decide
  · unfold TV.ky; rw [me_b54_1 hT, me_b32_1 hT]; decide
  · unfold TV.ky; rw [me_b54_2 hT, me_b32_2 hT]; decide
  · unfold TV.ky; rw [me_b54_3 hT, me_b32_3 hT]; decide
  · unfold TV.ky; rw [me_b54_4 hT, me_b32_4 hT]; decide
  · unfold TV.ky; rw [me_b54_5 hT, me_b32_5 hT]; decide
  · unfold TV.ky; rw [me_b54_6 hT, me_b32_6 hT]; decide
  · unfold TV.ky; rw [me_b54_7 hT, me_b32_7 hT]; decide
  · unfold TV.ky; rw [me_b54_8 hT, me_b32_8 hT]; decide
  · unfold TV.ky; rw [me_b54_9 hT, me_b32_9 hT]; decide
  · unfold TV.ky; rw [me_b54_10 hT, me_b32_10 hT]; decide
  · unfold TV.ky; rw [me_b54_11 hT, me_b32_11 hT]; decide
theorem me_w5 {w : World} (hT : PrT w) : ∀ j, j < 12 → meT.w5 j = (if j = 8 then 35682 else 5377) := fun j hj => by
  rcases twelve hj with rfl | rfl | rfl | rfl | rfl | rfl | rfl | rfl | rfl | rfl | rfl | rfl
  · unfold TV.w5; rw [me_b32_0 hT]; decide
  · unfold TV.w5; rw [me_b32_1 hT]; decide
  · unfold TV.w5; rw [me_b32_2 hT]; decide
  · unfold TV.w5; rw [me_b32_3 hT]; decide
  · unfold TV.w5; rw [me_b32_4 hT]; decide
  · unfold TV.w5; rw [me_b32_5 hT]; decide
  · unfold TV.w5; rw [me_b32_6 hT]; decide
  · unfold TV.w5; rw [me_b32_7 hT]; decide
  · unfold TV.w5; rw [me_b32_8 hT]; decide
  · unfold TV.w5; rw [me_b32_9 hT]; decide
  · unfold TV.w5; rw [me_b32_10 hT]; decide
  · unfold TV.w5; rw [me_b32_11 hT]; decide
theorem eq_w5 {w : World} (hT : PrT w) : ∀ j, j < 12 → eqT.w5 j = 1956 := fun j hj => by
  rcases twelve hj with rfl | rfl | rfl | rfl | rfl | rfl | rfl | rfl | rfl | rfl | rfl | rfl
  · unfold TV.w5; rw [eq_b32_0 hT]; decide
  · unfold TV.w5; rw [eq_b32_1 hT]; decide
  · unfold TV.w5; rw [eq_b32_2 hT]; decide
  · unfold TV.w5; rw [eq_b32_3 hT]; decide
  · unfold TV.w5; rw [eq_b32_4 hT]; decide
  · unfold TV.w5; rw [eq_b32_5 hT]; decide
  · unfold TV.w5; rw [eq_b32_6 hT]; decide
  · unfold TV.w5; rw [eq_b32_7 hT]; decide
  · unfold TV.w5; rw [eq_b32_8 hT]; decide
  · unfold TV.w5; rw [eq_b32_9 hT]; decide
  · unfold TV.w5; rw [eq_b32_10 hT]; decide
  · unfold TV.w5; rw [eq_b32_11 hT]; decide
theorem py_n8 : ∀ j, j < 6 → fol (pyP.S 8) pyP.D j = v3 (-12) (8) (0) j := fol_v3 (k := 4) (a := -8) (b := 8) (c := 0) (by decide +kernel) (flo_nat (4) (-8) (8) (0) (by decide +kernel) (by decide) (TT_nat 4 0 (e3 0 8 0) (e3 8 0 0) (by decide) (by decide) (by decide +kernel)) (SS_nat 5 0 (e3 0 8 0) (e3 8 0 0) (by decide) (by decide) (by decide +kernel)))
theorem py_n9 : ∀ j, j < 6 → fol (pyP.S 9) pyP.D j = v3 (5) (-3) (0) j := fol_v3 (k := 5) (a := 10) (b := -3) (c := 0) (by decide +kernel) (flo_nat (5) (10) (-3) (0) (by decide +kernel) (by decide) (TT_nat 5 0 (e3 10 0 0) (e3 0 3 0) (by decide) (by decide) (by decide +kernel)) (SS_nat 6 0 (e3 10 0 0) (e3 0 3 0) (by decide) (by decide) (by decide +kernel)))
theorem py_b8_9 : ∀ j, j < 6 → fol (pyP.y 8 9) pyP.D j = v3 (18) (-11) (0) j := fol_v3 (k := -1) (a := 17) (b := -11) (c := 0) (fun j hj => by unfold TP.y TP.n; rw [py_n8 j hj, py_n9 j hj]; revert j; decide) (flo_nat (-1) (17) (-11) (0) (fun j hj => by unfold TP.y TP.n; rw [py_n8 j hj, py_n9 j hj]; revert j; decide) (by decide) (TT_nat 0 1 (e3 17 0 0) (e3 0 11 0) (by decide) (by decide) (by decide +kernel)) (SS_nat 0 0 (e3 17 0 0) (e3 0 11 0) (by decide) (by decide) (by decide +kernel)))
theorem py_btw : pyT.btw 8 3 = (⟨18, -11, 0, 0, 0, 0, 1⟩, 0) := by
  have hB : pyT.B 8 3 = ⟨18, -11, 0, 0, 0, 0, 1⟩ := by
    unfold TV.B; rw [py_tp]; show nr (pyP.b 8 9) pyP.D = _; rw [nr_congr (u := pyP.b 8 9) (D := pyP.D) py_b8_9]; show nr (v3 18 (-11) 0) 1 = _; rw [← nr_one]; rfl
  unfold TV.btw; rw [if_pos py_chk, if_pos (by decide)]; show (pyT.B 8 3, (0 : Int)) = _; rw [hB]
theorem ki_f6 : nr (kiT.tp.f 6) kiT.tp.D = ⟨14, -7, -1, 0, 0, 0, 1⟩ := by
  rw [ki_tp]; have h : ∀ j, j < 6 → kiP.f 6 j = v3 14 (-7) (-1) j * 4 := (by decide +kernel); have e : nr (kiP.f 6) kiP.D = nr (v3 14 (-7) (-1)) 1 := nr_cross (by decide) (by decide) fun j hj => by rw [h j hj]; show _ * 4 * 1 = _ * 4; omega
  rw [e, ← nr_one]; rfl
theorem me_tri {w : World} (hT : PrT w) : meT.tri 0 = (0, -5377, 0) := by
  unfold TV.tri; rw [if_pos me_chk, if_pos (by decide)]; show (meT.xc b54 0 4, meT.xc b32 0 7, (0 : Int)) = _; rw [me_b54_0 hT, me_b32_0 hT]
end Go.Proofs.YtmcoadmnkelkkaaGreatDoor
namespace Go.Proofs.YtmcoadmnkelkkaaGreatDoor
set_option linter.unusedSimpArgs false
open Go.RowKit
set_option linter.unusedVariables false
attribute [-simp] Tryz.isAgg67 Tryz.isAgg35 Tryz.isAgg26 Tryz.isAgg24 Tryz.isAgg23
def SlR (w w' : World) (e : Ending) (t : TV) (T : TypeId) (f : Nat → RV) : Prop :=
  (t.chk nameS ≠ 0 → e = .returned (.tuple #[.slice none 0 0, .int .i64 (t.chk nameS)])) ∧
  (t.chk nameS = 0 → ∃ g, e = .returned (.tuple #[.slice (some ⟨g, 0, none⟩) 12 12, .int .i64 0]) ∧ w.heap.size ≤ g ∧ Blk w' g T (flatR f))
set_option maxHeartbeats 6400000 in
set_option maxRecDepth 100000 in
theorem tFifths_any (t : TV) (hs : t.nm.size ≤ maxLen) (w : World) (hT : PrT w) : Calls Tryz.prog 10 #[.agg t.cells] w fun e w' => SlR w w' e t 67 (fun k => nr (t.tp.f k) t.tp.D) ∧ Below w.heap.size w w' := by
  have HB : Sl (Below w.heap.size w w) := ⟨Below.refl _ _⟩; have HT : Sl _ := ⟨hT⟩; have HCK : Sl (∀ W : World, Calls Tryz.prog 41 #[.agg t.cells] W fun e w' => e = .returned (.int .i64 (t.chk nameS)) ∧ Below W.heap.size W w') := ⟨fun W => tcheck_any t W hs⟩; clear hT hs; obtain ⟨c, hc⟩ : ∃ c, t.chk nameS = c := ⟨_, rfl⟩; rw [hc] at HCK; have HC : Sl _ := ⟨hc⟩; clear hc; go_enter Tryz.func10, Tryz.ntmps10
  go_wp2_with ((with_reducible show wpList _ _ _ _ _ _); first
    | (refine wpList_box_new 1 rfl rfl 26 (.tmp 0) rfl t.cells rfl (box_temper t) ?_; rintro w1 gT zg zm zs zb; have ORD : Sl (w.heap.size ≤ gT) := ⟨by have := HB.out.size; omega⟩; replace HB := HB.v zm (by have := HB.out.size; have := ORD.out; omega); have XT : Sl (Blk w1 gT 26 t.cells) := ⟨zb⟩; clear zg zm zs zb)
    | (refine wpList_load_whole rfl 26 (.tmp 1) rfl gT rfl 26 t.cells _ XT.out Tryz.underlying26 rfl (size_temper t) ?_))
  refine (HCK.out _).mono ?_; rintro e w2 ⟨rfl, hb⟩; replace HB := HB.y hb; replace XT := XT.x hb; clear hb
  by_cases h0 : c = 0
  · subst h0; have HLO : Sl (∀ (W : World), PrT W → Blk W gT 26 t.cells → Calls Tryz.prog 42 #[.pointer (some ⟨gT, 0, none⟩)] W fun e w' => e = .returned (.agg (flatR (fun k => nr (t.tp.f k) t.tp.D))) ∧ Below W.heap.size W w') := ⟨fun W h hB => fifths_any t HC.out gT W h hB⟩; go_wp2_with fail; refine (HLO.out _ (HT.out.below HB.out) XT.out).mono ?_; rintro e w3 ⟨rfl, hb⟩; replace HB := HB.y hb; replace XT := XT.x hb; clear hb
    go_wp2_with ((with_reducible show wpList _ _ _ _ _ _); first
      | (refine wpList_alloc_new 5 rfl rfl 67 rfl (flatR fun _ => RVzero) alloc_twelve ?_; rintro w4 gL zg zm zs zb; replace ORD : Sl (w.heap.size ≤ gT ∧ gT < gL) := ⟨by have := HB.out.size; have := ORD.out; have := XT.out.lt; omega⟩; replace HB := HB.v zm (by have := HB.out.size; have := ORD.out; omega); replace XT := XT.w zm (by have := XT.out.lt; have := ORD.out; omega); have XL : Sl (Blk w4 gL 67 (flatR fun _ => RVzero)) := ⟨zb⟩; clear zg zm zs zb)
      | (refine wpList_store_whole rfl 67 (.tmp 5) (.tmp 11) rfl gL (flatR (fun k => nr (t.tp.f k) t.tp.D)) rfl rfl 67 (flatR fun _ => RVzero) XL.out (by rw [flatR_size, flatR_size]) (size_twelve _) (flatR_one _) ?_; rintro w5 zm zs zb; replace HB := HB.v zm (by have := ORD.out; omega); replace XT := XT.w zm (by have := XT.out.lt; have := ORD.out; omega); replace XL : Sl (Blk w5 gL 67 (flatR (fun k => nr (t.tp.f k) t.tp.D))) := ⟨zb⟩; clear zm zs zb))
    go_ret2; exact ⟨⟨fun h => absurd HC.out h, fun _ => ⟨gL, rfl, by have := ORD.out; omega, XL.out⟩⟩, HB.out⟩
  · have hz : ((c : Int) != 0) = true := (by rw [bne_iff_ne]; exact h0); go_wp2_with fail; go_ret2; exact ⟨⟨fun _ => by rw [HC.out]; rfl, fun h => absurd (HC.out.symm.trans h) h0⟩, HB.out⟩
end Go.Proofs.YtmcoadmnkelkkaaGreatDoor
namespace Go.Proofs.YtmcoadmnkelkkaaGreatDoor
set_option linter.unusedSimpArgs false
open Go.RowKit
set_option linter.unusedVariables false
attribute [-simp] Tryz.isAgg35 Tryz.isAgg26 Tryz.isAgg24 Tryz.isAgg23
def itB (z : Int) : ByteArray := ⟨(Lib.itoa z).toArray⟩
def ItoaOK (w : World) : Prop := ∀ (z : Int) (W : World), -100 ≤ z → z ≤ 100 → Below w.heap.size w W → Calls Tryz.prog 67 #[.int .i64 z] W fun e w' => e = .returned (.string (itB z)) ∧ Below W.heap.size W w'
theorem dd_len {u : Nat} (h : u < 1000) : (Lib.decDigits u).length ≤ 3 := by
  rw [Lib.decDigits]
  split
  · simp
  · rw [List.length_append, Lib.decDigits]
    split
    · simp
    · rw [List.length_append, Lib.decDigits]; rw [dif_pos (by omega)]; simp
theorem itoa_len {z : Int} (h1 : -100 ≤ z) (h2 : z ≤ 100) : (Lib.itoa z).length ≤ 4 := by
  unfold Lib.itoa
  split
  · have := dd_len (u := z.natAbs) (by omega); simp only [List.length_cons]; omega
  · have := dd_len (u := z.toNat) (by omega); omega
theorem itB_len {z : Int} (h1 : -100 ≤ z) (h2 : z ≤ 100) : (itB z).size ≤ 4 := by
  have := itoa_len h1 h2; unfold itB; show (Lib.itoa z).toArray.size ≤ 4; rw [List.size_toArray]; exact this
def comB (syn : Bool) : ByteArray := if syn then ⟨#[115, 121, 110, 116, 111, 110, 105, 99]⟩ else ⟨#[112, 121, 116, 104, 97, 103, 111, 114, 101, 97, 110]⟩
def wdB (n d : Int) : ByteArray := if 1 < d then itB n ++ (⟨#[47]⟩ ++ itB d) else itB n
def TV.wds (t : TV) (k : Nat) : List ByteArray := [t.nm, comB t.syn, itB t.wolf] ++ (List.range k).map fun i => wdB (t.num i) (t.den i)
def strs (l : List ByteArray) : List Value := l.map .string
theorem TV.wds_succ (t : TV) (k : Nat) : t.wds (k + 1) = t.wds k ++ [wdB (t.num k) (t.den k)] := by unfold TV.wds; rw [List.range_succ, List.map_append, List.append_assoc]; rfl
theorem TV.wds_len (t : TV) (k : Nat) : (t.wds k).length = 3 + k := by unfold TV.wds; simp; omega
theorem strs_snoc (l : List ByteArray) (b : ByteArray) : strs (l ++ [b]) = strs l ++ [.string b] := by unfold strs; rw [List.map_append]; rfl
def TV.txt (t : TV) : ByteArray := ⟨(Lib.join ((t.wds 12).map (·.data.toList)) [32]).toArray⟩
theorem join_le (sep : List UInt8) (m : Nat) : ∀ l : List (List UInt8), (∀ x ∈ l, x.length ≤ m) → (Lib.join l sep).length ≤ l.length * (m + sep.length)
  | [], _ => by simp [Lib.join]
  | [a], h => by
    have := h a (by simp); simp [Lib.join]; omega
  | a :: b :: l, h => by
    have h1 := h a (by simp); have ih := join_le sep m (b :: l) (fun x hx => h x (by simp at hx ⊢; exact .inr hx)); have e : Lib.join (a :: b :: l) sep = a ++ (sep ++ Lib.join (b :: l) sep) := (by simp [Lib.join]); rw [e]; simp only [List.length_append, List.length_cons] at ih ⊢; have e2 : (l.length + 1 + 1) * (m + sep.length) = (l.length + 1) * (m + sep.length) + (m + sep.length) := (by rw [Nat.add_mul, Nat.one_mul]); omega
theorem own_some {w : World} {base n : Nat} {e : TypeId} {v : Value} {xs : List Value} (h : w.ownsRow base e 1 v n xs) (hn : 0 < n) : ∃ g cap, v = .slice (some ⟨g, 0, none⟩) n cap ∧ base ≤ g ∧ g < w.heap.size := by
  obtain ⟨_, h0 | ⟨g, cap, cur, rfl, hb, hh, hnc, _⟩⟩ := h
  · omega
  · exact ⟨g, cap, rfl, hb, Blk.lt (t := e) (cs := cur) hh⟩
theorem own_room {w : World} {base n g cap : Nat} {e : TypeId} {xs : List Value} (h : w.ownsRow base e 1 (.slice (some ⟨g, 0, none⟩) n cap) n xs) : n ≤ cap := by
  obtain ⟨_, h0 | ⟨g', cap', cur, he, _, _, hnc, _⟩⟩ := h
  · cases h0.1
  · injection he with _ _ h3
    omega
theorem nameS_len {s : ByteArray} (h : nameS s = true) : s.size ≤ 16 := by
  unfold nameS at h; exact (of_decide_eq_true h).1.2
theorem wds_small {t : TV} (hn : t.nm.size ≤ 16) (h : (0 ≤ t.wolf ∧ t.wolf ≤ 11) ∧ (∀ i, i < 12 → ¬ t.bad i) ∧ nameS t.nm = true ∧ (∀ i, i < 12 → t.low i) ∧ t.num t.wolf.toNat = 0 ∧ t.all 12 ≤ 120) : ∀ x ∈ (t.wds 12).map (·.data.toList), x.length ≤ 16 := by
  have hsz : ∀ b : ByteArray, b.data.toList.length = b.size := fun b => by rw [Array.length_toList]; rfl
  intro x hx; obtain ⟨b, hb, rfl⟩ := List.mem_map.1 hx; rw [hsz]; unfold TV.wds at hb; rcases List.mem_append.1 hb with hb | hb
  · simp only [List.mem_cons, List.not_mem_nil, or_false] at hb; rcases hb with rfl | rfl | rfl
    · exact hn
    · unfold comB; split <;> decide
    · have := itB_len (z := t.wolf) (by omega) (by omega); omega
  · obtain ⟨i, hi, rfl⟩ := List.mem_map.1 hb; have hbad := h.2.1 i (List.mem_range.1 hi); unfold TV.bad at hbad; have l1 := itB_len (z := t.num i) (by omega) (by omega); have l2 := itB_len (z := t.den i) (by omega) (by omega); unfold wdB
    split
    · rw [ByteArray.size_append, ByteArray.size_append]; have : (⟨#[47]⟩ : ByteArray).size = 1 := rfl; omega
    · omega
theorem info_str : ∃ i : TypeInfo, Tryz.prog.info? 9 = some i ∧ i.zero = some (.string ⟨#[]⟩) ∧ i.size = 1 ∧ i.bytes = 16 := by
  have h : (Tryz.prog.info? 9).isSome = true := (by kernel_rfl); obtain ⟨i, hi⟩ := Option.isSome_iff_exists.1 h; have h1 : (Tryz.prog.info? 9).bind (·.zero) = some (.string ⟨#[]⟩) := (by kernel_rfl); have h2 : (Tryz.prog.info? 9).map (·.size) = some 1 := (by kernel_rfl); have h3 : (Tryz.prog.info? 9).map (·.bytes) = some 16 := (by kernel_rfl); rw [hi] at h1 h2 h3; exact ⟨i, hi, by simpa using h1, by simpa using h2, by simpa using h3⟩
theorem reads_s1 (W : World) (T : TypeId) (m : ByteArray) : Reads (W.alloc (.cells #[.string m] T)) (W.heap.size + 1) 1 (some ⟨W.heap.size, 0, none⟩) 1 [.string m] := by
  refine ⟨rfl, fun _ => ⟨_, rfl, Nat.lt_succ_self _, fun j u hu => ?_⟩⟩; have hb := Blk.new W T #[.string m]
  have e : (⟨W.heap.size, 0, none⟩ : Addr).add j = ⟨W.heap.size, j, none⟩ := by
    unfold Addr.add
    by_cases h : j = 0
    · subst h; simp
    · simp [h]
  rw [e, hb.cell]; simpa using hu
set_option maxHeartbeats 6400000 in
set_option maxRecDepth 100000 in
theorem tText_any (t : TV) (hs : t.nm.size ≤ maxLen) (w : World) (hI : ItoaOK w) : Calls Tryz.prog 35 #[.agg t.cells] w fun e w' => (t.chk nameS ≠ 0 → e = .returned (.tuple #[.string ⟨#[]⟩, .int .i64 (t.chk nameS)])) ∧ (t.chk nameS = 0 → e = .returned (.tuple #[.string t.txt, .int .i64 0])) ∧ Below w.heap.size w w' := by
  have HB : Sl (Below w.heap.size w w) := ⟨Below.refl _ _⟩; have HIT : Sl _ := ⟨hI⟩; have HCK : Sl (∀ W : World, Calls Tryz.prog 41 #[.agg t.cells] W fun e w' => e = .returned (.int .i64 (t.chk nameS)) ∧ Below W.heap.size W w') := ⟨fun W => tcheck_any t W hs⟩; clear hs hI; obtain ⟨c, hc⟩ : ∃ c, t.chk nameS = c := ⟨_, rfl⟩; rw [hc] at HCK; rw [hc]; have HC : Sl _ := ⟨hc⟩; clear hc; obtain ⟨i0, hi0, hz0, hz1, hz2⟩ := info_str; have HI : Sl _ := ⟨And.intro hi0 (And.intro hz0 (And.intro hz1 hz2))⟩; clear hi0 hz0 hz1 hz2; go_enter Tryz.func35, Tryz.ntmps35
  go_wp2_with ((with_reducible show wpList _ _ _ _ _ _); first
    | (refine wpList_box_new 1 rfl rfl 26 (.tmp 0) rfl t.cells rfl (box_temper t) ?_; rintro w1 gT zg zm zs zb; have ORD : Sl (w.heap.size ≤ gT) := ⟨by have := HB.out.size; omega⟩; replace HB : Sl (Below w.heap.size w w1) := ⟨below_mv HB.out zm (by have := HB.out.size; have := ORD.out; omega) HB.out.size⟩; have XT : Sl (Blk w1 gT 26 t.cells) := ⟨zb⟩; clear zg zm zs zb)
    | (refine wpList_load_whole rfl 26 (.tmp 1) rfl gT rfl 26 t.cells _ XT.out Tryz.underlying26 rfl (size_temper t) ?_))
  refine (HCK.out _).mono ?_; rintro e w2 ⟨rfl, hb⟩; replace HB : Sl (Below w.heap.size w w2) := ⟨HB.out.trans (hb.mono HB.out.size)⟩; replace XT : Sl (Blk w2 gT 26 t.cells) := ⟨XT.out.below hb XT.out.lt⟩; clear hb
  by_cases h0 : c = 0
  · subst h0; have HOK : Sl _ := ⟨TV.chk_ok HC.out⟩; obtain ⟨hw0, hw1⟩ := HOK.out.1; obtain ⟨W, hW⟩ : ∃ W, t.wolf = W := ⟨_, rfl⟩; rw [hW] at hw0 hw1; obtain ⟨syn, hsyn⟩ : ∃ b, t.syn = b := ⟨_, rfl⟩; have HWS : Sl _ := ⟨And.intro hW hsyn⟩; clear hW hsyn; have HIX : Sl _ := ⟨fun (W : World) (k : Nat) (hk : k < 12) => idxT t W hk⟩; go_wp2_with fail; have HI1 : Sl (∀ V : World, Below w2.heap.size w2 V → Calls Tryz.prog 67 #[.int .i64 W] V fun e w' => e = .returned (.string (itB W)) ∧ Below V.heap.size V w') := ⟨fun V h => HIT.out W V (by omega) (by omega) (HB.out.trans (h.mono HB.out.size))⟩; have XTC := XT; have HBC := HB; have hm : Mv w2.heap.size w2 w2.drew := Mv.drew _ _; have hs : RowKit.Below w2.heap.size w2 w2.drew := below_drewN (Below.refl _ _) 1; have HSW : Sl _ := ⟨hs⟩; clear hs; refine wp_region_held_drew (S := fun w' => Mv w2.heap.size w2 w') (by kernel_rfl) hm (fun hHeld => ?_); clear hm; refine wpAnyH_pure 0 (v := .pointer (some ⟨gT, 0, none⟩)) rfl (by kernel_rfl) (by kernel_rfl) (by kernel_rfl) (fun _ _ _ h => h) rfl (fun _ => by go_simp) (by assumption) ?_; simp only [Act.put, sS0, sS1, sS2]
    refine wpAnyH_cell 1 (v := .string t.nm) rfl rfl (fun w' h => by
      have e := (XT.out.mv h (by have := XT.out.lt; omega)).cell 0; rw [t.cell0] at e
      go_simp) (by kernel_rfl) (by kernel_rfl) (by kernel_rfl) (fun _ _ _ h => h) (by assumption) ?_
    simp only [Act.put, sS0, sS1, sS2]; refine wpAnyH_pure 2 (v := .pointer (some ⟨gT, 2, none⟩)) rfl (by kernel_rfl) (by kernel_rfl) (by kernel_rfl) (fun _ _ _ h => h) rfl (fun _ => by go_simp) (by assumption) ?_; simp only [Act.put, sS0, sS1, sS2]
    refine wpAnyH_cell 3 (v := .int .i64 W) rfl rfl (fun w' h => by
      have e := (XT.out.mv h (by have := XT.out.lt; omega)).cell 2; rw [t.cell2, HWS.out.1] at e
      go_simp) (by kernel_rfl) (by kernel_rfl) (by kernel_rfl) (fun _ _ _ h => h) (by assumption) ?_
    simp only [Act.put, sS0, sS1, sS2]; refine wpAnyH_one 4 rfl (by kernel_rfl) rfl (fun K hK => ?_); go_simp; go_at_call 67
    (with_reducible refine (HI1.out _ HSW.out).mono ?_)
    rintro e z3 ⟨rfl, hb⟩; replace HSW : Sl (RowKit.Below w2.heap.size w2 z3) := ⟨HSW.out.trans (hb.mono HSW.out.size)⟩; refine hK.out _ _ (Mv.below HSW.out) (fun hHeld => ?_); clear hK K hb
    (try simp only [Act.put, sS0, sS1, sS2])
    refine wpAnyH_one 5 rfl (by kernel_rfl) rfl (fun K hK => ?_); go_simp; have hb : Below w2.heap.size w2 (z3.alloc (.cells #[.string t.nm, .string ⟨#[112, 121, 116, 104, 97, 103, 111, 114, 101, 97, 110]⟩, .string (itB W)] 9)) := HSW.out.trans (((Below.refl _ _).alloc (Nat.le_refl _) _).mono HSW.out.size); refine hK.out _ _ (Mv.below hb) (fun hHeld => ?_); clear hK K
    (try simp only [Act.put, sS0, sS1, sS2])
    refine wpAnyH_pure 6 (v := .slice (some ⟨z3.heap.size, 0, none⟩) 3 3) rfl (by kernel_rfl) (by kernel_rfl) (by kernel_rfl) (fun _ _ _ h => h) rfl (fun _ => rfl) (by assumption) ?_; simp only [Act.put, sS0, sS1, sS2]; refine wpAnyH_done (by kernel_rfl) ?_ _; have XO : Sl ((z3.alloc (.cells #[.string t.nm, .string ⟨#[112, 121, 116, 104, 97, 103, 111, 114, 101, 97, 110]⟩, .string (itB W)] 9)).ownsRow w2.heap.size 9 1 (.slice (some ⟨z3.heap.size, 0, none⟩) 3 3) 3 (strs [t.nm, comB false, itB W])) := ⟨World.ownsRow_lit z3 _ 3 HSW.out.size (by decide) rfl⟩; replace HB : Sl (Below w.heap.size w (z3.alloc (.cells #[.string t.nm, .string ⟨#[112, 121, 116, 104, 97, 103, 111, 114, 101, 97, 110]⟩, .string (itB W)] 9))) := ⟨HB.out.trans (hb.mono HB.out.size)⟩; replace XT : Sl (Blk (z3.alloc (.cells #[.string t.nm, .string ⟨#[112, 121, 116, 104, 97, 103, 111, 114, 101, 97, 110]⟩, .string (itB W)] 9)) gT 26 t.cells) := ⟨XT.out.below hb XT.out.lt⟩; obtain ⟨B0, hB0⟩ : ∃ B, w2.heap.size = B := ⟨_, rfl⟩; have HB0 : Sl (gT < B0 ∧ w.heap.size ≤ B0) := ⟨by have := XTC.out.lt; have := HBC.out.size; omega⟩; rw [hB0] at XO; clear hb HSW hB0 XTC HBC; (try clear hHeld); generalize z3.alloc (.cells #[.string t.nm, .string ⟨#[112, 121, 116, 104, 97, 103, 111, 114, 101, 97, 110]⟩, .string (itB W)] 9) = wA at *
    generalize z3.heap.size = gW at *
    have cs1 : wA.cell? ⟨gT, 1, none⟩ = some (.bool syn) := (by rw [XT.out.cell 1, t.cell1, HWS.out.2])
    go_upto_if 21 with fail
    clear cs1
    go_cut [] from 22 to 23 (fun wx => Sl (Below w.heap.size w wx) ∧ Sl (Blk wx gT 26 t.cells) ∧ Sl (wx.ownsRow B0 9 1 (.slice (some ⟨gW, 0, none⟩) 3 3) 3 (strs [t.nm, comB syn, itB W])))
    case first =>
      cases syn
      · go_wp2_with fail
        go_meet
        exact ⟨HB, XT, XO⟩
      · have c1 : wA.cell? ⟨gW, 1, none⟩ = some (.string (comB false)) := XO.out.cellAt 1 (by decide); have f1 := XO.out.frozenAt 1; have hgW := (XO.out.lt gW rfl).1; go_wp2_with fail
        go_meet
        exact ⟨⟨below_mv HB.out (Mv.setCells wA gW 1 [.string (comB true)]) (by have := HB0.out; omega) HB.out.size⟩, ⟨XT.out.mv (Mv.setCells wA gW 1 [.string (comB true)]) (by have := HB0.out; omega)⟩, ⟨(XO.out.stored 1 (.string (comB true))).1⟩⟩
    case rest =>
      clear HB XT XO; obtain ⟨HB, XT, XO⟩ := hcut; have e : [t.nm, comB syn, itB W] = t.wds 0 := (by unfold TV.wds; rw [HWS.out.1, HWS.out.2]; rfl); rw [e] at XO; clear e
      go_wp2_with ((with_reducible show wpList _ _ _ _ _ _); first
        | (refine wpList_load_part rfl 24 (.tmp 24) rfl gT (3) rfl 26 t.cells t.parts _ XT.out (parts_ext t) Tryz.underlying24 rfl (size_parts2 t) ?_))
      go_loopw [5, 26] (fun so sk wr => ∃ (k : Nat) (v5 : Value), k ≤ 12 ∧ sk = .int .i64 k ∧ v5 = so ∧ Sl (Below w.heap.size w wr) ∧ Sl (Blk wr gT 26 t.cells) ∧ Sl (wr.ownsRow B0 9 1 v5 (3 + k) (strs (t.wds k)))) (fun _ sk _ => 12 - (RowKit.intOf sk).toNat)
      case atStart => exact ⟨0, _, by decide, rfl, rfl, HB, XT, XO⟩
      case round =>
        clear HB XT XO; obtain ⟨k, v5, hk, rfl, rfl, HB, XT, XO⟩ := hrel
        by_cases hk12 : k < 12
        · have hix := fun W : World => HIX.out W k hk12
          obtain ⟨n, hn⟩ : ∃ n, t.num k = n := ⟨_, rfl⟩; obtain ⟨d, hd⟩ : ∃ d, t.den k = d := ⟨_, rfl⟩; have hbad := HOK.out.2.1 k hk12; unfold TV.bad at hbad; rw [hn, hd] at hix hbad; have hn1 : -100 ≤ n := (by omega); have hn2 : n ≤ 100 := (by omega); have hd1 : -100 ≤ d := (by omega); have hd2 : d ≤ 100 := (by omega); have HND : Sl _ := ⟨And.intro hn hd⟩; have HIN : Sl (∀ V : World, Below w.heap.size w V → Calls Tryz.prog 67 #[.int .i64 n] V fun e w' => e = .returned (.string (itB n)) ∧ Below V.heap.size V w') := ⟨fun V h => HIT.out n V hn1 hn2 h⟩; have HID : Sl (∀ V : World, Below w.heap.size w V → Calls Tryz.prog 67 #[.int .i64 d] V fun e w' => e = .returned (.string (itB d)) ∧ Below V.heap.size V w') := ⟨fun V h => HIT.out d V hd1 hd2 h⟩; have hl1 := itB_len hn1 hn2; have hl2 := itB_len hd1 hd2; clear hn hd hbad hn1 hn2 hd1 hd2
          go_wp2_with ((with_reducible show wpList _ _ _ _ _ _); first
            | (refine wpList_alloc_new 7 rfl rfl 23 rfl #[.int .i64 0, .int .i64 0] alloc_part ?_; rintro w4 gP zg zm zs zb; replace ORD : Sl (w.heap.size ≤ gT ∧ gT < gP) := ⟨by have := HB.out.size; have := ORD.out; have := XT.out.lt; omega⟩; have OBXOP : Sl (∀ zk, v5.ownBlock = some zk → zk < gP) := ⟨fun zk hk => by have := (XO.out.lt zk hk).2; omega⟩; replace HB : Sl (Below w.heap.size w w4) := ⟨below_mv HB.out zm (by have := HB.out.size; have := ORD.out; omega) HB.out.size⟩; replace XT : Sl (Blk w4 gT 26 t.cells) := ⟨XT.out.mv zm (by have := XT.out.lt; have := ORD.out; omega)⟩; replace XO : Sl (w4.ownsRow B0 9 1 v5 (3 + k) (strs (t.wds k))) := ⟨own_mv XO.out zm (fun zk hk => by have := (XO.out.lt zk hk).2; omega)⟩; have XP : Sl (Blk w4 gP 23 #[.int .i64 0, .int .i64 0]) := ⟨zb⟩; clear zg zm zs zb)
            | (refine wpList_store_whole rfl 23 (.tmp 7) (.tmp 28) rfl gP #[.int .i64 n, .int .i64 d] rfl rfl 23 #[.int .i64 0, .int .i64 0] XP.out rfl (size_part n d) (part_one n d) ?_; rintro w5 zm zs zb; replace HB : Sl (Below w.heap.size w w5) := ⟨below_mv HB.out zm (by have := HB.out.size; have := ORD.out; omega) HB.out.size⟩; replace XT : Sl (Blk w5 gT 26 t.cells) := ⟨XT.out.mv zm (by have := XT.out.lt; have := ORD.out; omega)⟩; replace XO : Sl (w5.ownsRow B0 9 1 v5 (3 + k) (strs (t.wds k))) := ⟨own_mv XO.out zm (fun zk hk => by have := OBXOP.out zk hk; omega)⟩; replace XP : Sl (Blk w5 gP 23 #[.int .i64 n, .int .i64 d]) := ⟨zb⟩; clear zm zs zb; have cp0 : w5.cell? ⟨gP, 0, none⟩ = some (.int .i64 n) := XP.out.cell 0))
          clear hix; refine (HIN.out _ HB.out).mono ?_; rintro e w6 ⟨rfl, hb⟩; replace HB : Sl (Below w.heap.size w w6) := ⟨HB.out.trans (hb.mono HB.out.size)⟩; replace XT : Sl (Blk w6 gT 26 t.cells) := ⟨XT.out.below hb XT.out.lt⟩; replace XP : Sl (Blk w6 gP 23 #[.int .i64 n, .int .i64 d]) := ⟨XP.out.below hb XP.out.lt⟩; replace XO : Sl (w6.ownsRow B0 9 1 v5 (3 + k) (strs (t.wds k))) := ⟨own_mv XO.out (Mv.of_below hb) (fun zk hk => by have := (XO.out.lt zk hk).2; omega)⟩; clear hb; have cp1 : w6.cell? ⟨gP, 1, none⟩ = some (.int .i64 d) := XP.out.cell 1
          by_cases hdd : 1 < d
          · have hdc : decide (1 < d) = true := decide_eq_true hdd; have HWD : Sl (wdB n d = itB n ++ (⟨#[47]⟩ ++ itB d)) := ⟨by unfold wdB; rw [if_pos hdd]⟩; clear hdd; go_wp2_with fail; refine (HID.out _ HB.out).mono ?_; rintro e w7 ⟨rfl, hb⟩; replace HB : Sl (Below w.heap.size w w7) := ⟨HB.out.trans (hb.mono HB.out.size)⟩; replace XT : Sl (Blk w7 gT 26 t.cells) := ⟨XT.out.below hb XT.out.lt⟩; replace XP : Sl (Blk w7 gP 23 #[.int .i64 n, .int .i64 d]) := ⟨XP.out.below hb XP.out.lt⟩; replace XO : Sl (w7.ownsRow B0 9 1 v5 (3 + k) (strs (t.wds k))) := ⟨own_mv XO.out (Mv.of_below hb) (fun zk hk => by have := (XO.out.lt zk hk).2; omega)⟩; clear hb; have HBS : Sl (B0 ≤ w7.heap.size) := ⟨by obtain ⟨gg, cc, _, hgg, hll⟩ := own_some XO.out (by omega); omega⟩
            go_wp2_with ((with_reducible show wpList _ _ _ _ _ _); first
              | (at_builtin; go_loud (refine wpList_append_any _ rfl (.tmp 41) (.tmp 43) _ rfl B0 9 i0 _ 1 16 Tryz.underlying95 HI.out.1 HI.out.2.1 HI.out.2.2.1 HI.out.2.2.2 rfl (by decide) v5 (3 + k) _ rfl (own_alloc XO.out _) _ (some ⟨w7.heap.size, 0, none⟩) 1 1 [.string (itB n ++ (⟨#[47]⟩ ++ itB d))] rfl (reads_s1 _ _ _) (by intro u hu; simp at hu; subst hu; rfl) (by unfold maxLen; omega) (by omega) (by have := HBS.out; have := HB.out.size; simp; omega) ?_); rintro v6 wN hown hg hat; have XQ : Sl (wN.ownsRow B0 9 1 v6 (3 + (k + 1)) (strs (t.wds (k + 1)))) := ⟨by rw [TV.wds_succ, strs_snoc, HND.out.1, HND.out.2, HWD.out]; exact hown⟩; have XTN : Sl (Blk wN gT 26 t.cells) := ⟨(XT.out.alloc _).grown hg (fun h => by have := (XO.out.lt gT h.symm).1; have := HB0.out; omega)⟩; have HBN : Sl (Below w.heap.size w wN) := ⟨below_grown2 HB.out HB.out.size (own_base XO.out (by have := HB0.out; omega)) hg⟩; clear hown hg hat))
            exact ⟨⟨k + 1, v6, hk12, by go_num, rfl, HBN, XTN, XQ⟩, by simp [RowKit.intOf]; omega⟩
          · have hdc : decide (1 < d) = false := decide_eq_false hdd; have HWD : Sl (wdB n d = itB n) := ⟨by unfold wdB; rw [if_neg hdd]⟩; clear hdd; have HBS : Sl (B0 ≤ w6.heap.size) := ⟨by obtain ⟨gg, cc, _, hgg, hll⟩ := own_some XO.out (by omega); omega⟩
            go_wp2_with ((with_reducible show wpList _ _ _ _ _ _); first
              | (at_builtin; go_loud (refine wpList_append_any _ rfl (.tmp 41) (.tmp 43) _ rfl B0 9 i0 _ 1 16 Tryz.underlying95 HI.out.1 HI.out.2.1 HI.out.2.2.1 HI.out.2.2.2 rfl (by decide) v5 (3 + k) _ rfl (own_alloc XO.out _) _ (some ⟨w6.heap.size, 0, none⟩) 1 1 [.string (itB n)] rfl (reads_s1 _ _ _) (by intro u hu; simp at hu; subst hu; rfl) (by unfold maxLen; omega) (by omega) (by have := HBS.out; have := HB.out.size; simp; omega) ?_); rintro v6 wN hown hg hat; have XQ : Sl (wN.ownsRow B0 9 1 v6 (3 + (k + 1)) (strs (t.wds (k + 1)))) := ⟨by rw [TV.wds_succ, strs_snoc, HND.out.1, HND.out.2, HWD.out]; exact hown⟩; have XTN : Sl (Blk wN gT 26 t.cells) := ⟨(XT.out.alloc _).grown hg (fun h => by have := (XO.out.lt gT h.symm).1; have := HB0.out; omega)⟩; have HBN : Sl (Below w.heap.size w wN) := ⟨below_grown2 HB.out HB.out.size (own_base XO.out (by have := HB0.out; omega)) hg⟩; clear hown hg hat))
            exact ⟨⟨k + 1, v6, hk12, by go_num, rfl, HBN, XTN, XQ⟩, by simp [RowKit.intOf]; omega⟩
        · obtain rfl : k = 12 := (by omega); clear hk12 hk; have h16 := nameS_len HOK.out.2.2.1; obtain ⟨g5, c5, rfl, hg5, hlt⟩ := own_some XO.out (by omega)
          have hJ := Tryz.strings_Join g5 0 c5 (t.wds 12) ⟨#[32]⟩ wr (fun j x hx => by
            have hj : j < 15 := by
              rcases Nat.lt_or_ge j 15 with h | h
              · exact h
              · rw [List.getElem?_eq_none (by rw [t.wds_len]; exact h)] at hx; cases hx
            rw [Nat.zero_add, XO.out.cellAt j (by omega)]; unfold strs; rw [List.getElem?_map, hx]
            rfl) hlt (by rw [t.wds_len]; decide) (by rw [t.wds_len]; exact own_room XO.out) (Nat.le_trans (join_le _ 16 _ (wds_small h16 HOK.out)) (by rw [List.length_map, t.wds_len]; decide))
          rw [t.wds_len] at hJ; have HJ : Sl _ := ⟨hJ⟩; clear hJ h16 hlt hg5; go_wp2_with fail; refine HJ.out.mono ?_; rintro e wz ⟨rfl, hb⟩; replace HB : Sl (Below w.heap.size w wz) := ⟨HB.out.trans (hb.mono HB.out.size)⟩; replace XT : Sl (Blk wz gT 26 t.cells) := ⟨XT.out.below hb XT.out.lt⟩; go_wp2_with fail; go_ret2; exact ⟨rfl, HB.out⟩
  · have hz : ((c : Int) != 0) = true := (by rw [bne_iff_ne]; exact h0); go_wp2_with fail; go_ret2; exact ⟨fun _ => rfl, fun h => absurd h h0, HB.out⟩
end Go.Proofs.YtmcoadmnkelkkaaGreatDoor
namespace Go.Proofs.YtmcoadmnkelkkaaGreatDoor
set_option linter.unusedSimpArgs false
open Go.RowKit
set_option linter.unusedVariables false
theorem sink_key {κ κ' : Int → Int} {lo hi : Int} (hk : ∀ z, lo ≤ z → z < hi → κ z = κ' z) : ∀ (j : Nat) (f : Nat → Int), (∀ i, i ≤ j → lo ≤ f i ∧ f i < hi) → sink κ j f = sink κ' j f
  | 0, f, _ => rfl
  | j+1, f, h => by
    have h1 := h (j + 1) (Nat.le_refl _); have h2 := h j (by omega); unfold sink; rw [hk _ h1.1 h1.2, hk _ h2.1 h2.2]
    split
    · refine sink_key hk j _ (fun i hi => ?_); unfold upd
      split
      · exact h1
      · split
        · exact h2
        · exact h i (by omega)
    · rfl
theorem sorty_key {κ κ' : Int → Int} {lo hi : Int} (hk : ∀ z, lo ≤ z → z < hi → κ z = κ' z) (f : Nat → Int) : ∀ m : Nat, (∀ i, i ≤ m → lo ≤ f i ∧ f i < hi) → sorty κ f m = sorty κ' f m
  | 0, _ => rfl
  | m+1, h => by
    have ih := sorty_key hk f m (fun i hi => h i (by omega)); unfold sorty; rw [ih]; refine sink_key hk (m + 1) _ (fun i hi => ?_)
    by_cases him : i ≤ m
    · exact sorty_in κ' f m (fun i hi => h i (by omega)) i him
    · rw [sorty_far κ' f m i (by omega)]; exact h i hi
def meK (z : Int) : Int := if z = 8 then 76740 else if z = 1 ∨ z = 6 ∨ z = 11 then 46435 else 5377
theorem me_keys {w : World} (hT : PrT w) : ∀ j, j < 12 → sorty (keyZ meT.ky) ident 11 j = ([0, 2, 3, 4, 5, 7, 9, 10, 1, 6, 11, 8] : List Int)[j]?.getD 0 := by
  have h1 : sorty (keyZ meT.ky) ident 11 = sorty meK ident 11 := sorty_key (lo := 0) (hi := 12) (fun z h0 h1 => by
    obtain ⟨k, rfl⟩ := Int.eq_ofNat_of_zero_le h0; rw [keyZ_at, me_ky hT k (by omega)]; unfold meK
    by_cases h8 : k = 8
    · have e8 : (k : Int) = 8 := (by omega); rw [if_pos h8, if_pos e8]
    · have e8 : ¬ (k : Int) = 8 := (by omega); rw [if_neg h8, if_neg e8]
      by_cases h9 : k = 1 ∨ k = 6 ∨ k = 11
      · have e9 : (k : Int) = 1 ∨ (k : Int) = 6 ∨ (k : Int) = 11 := (by omega); rw [if_pos h9, if_pos e9]
      · have e9 : ¬ ((k : Int) = 1 ∨ (k : Int) = 6 ∨ (k : Int) = 11) := (by omega)
        rw [if_neg h9, if_neg e9]) ident 11 (fun i hi => by unfold ident; omega)
  rw [h1]
  decide +kernel
def wlC (W : Nat → Int) (most : Int) : Nat → List Int
  | 0 => []
  | k+1 => if most < W k then wlC W most k ++ [(k : Int)] else wlC W most k
theorem wl_is {t : TV} {W : Nat → Int} {most : Int} (h : ∀ j, j < 12 → t.w5 j = W j) : ∀ k, k ≤ 12 → t.wl most k = wlC W most k
  | 0, _ => rfl
  | k+1, hk => by
    have ih := wl_is (most := most) h k (by omega); unfold TV.wl wlC; rw [ih, h k (by omega)]
theorem me_wl {w : World} (hT : PrT w) : meT.wl 10000 12 = [8] := by
  rw [wl_is (me_w5 hT) 12 (Nat.le_refl _)]
  decide +kernel
theorem eq_wl {w : World} (hT : PrT w) : (eqT.wl 1955 12).length = 12 := by
  rw [wl_is (eq_w5 hT) 12 (Nat.le_refl _)]
  decide +kernel
theorem me_wc : meT.wc 10000 = 0 := by unfold TV.wc; rw [if_pos me_chk]; decide
theorem eq_wc : eqT.wc 1955 = 0 := by unfold TV.wc; rw [if_pos eq_chk]; decide
theorem yo_txt : yoT.txt = ⟨#[121, 111, 117, 110, 103, 32, 112, 121, 116, 104, 97, 103, 111, 114, 101, 97, 110, 32, 49, 49, 32, 49, 47, 54, 32, 49, 47, 54, 32, 49, 47, 54, 32, 49, 47, 54, 32, 49, 47, 54, 32, 49, 47, 54, 32, 48, 32, 48, 32, 48, 32, 48, 32, 48, 32, 48]⟩ := by
  have h0 : Lib.itoa 0 = [48] := (by simp [Lib.itoa, Lib.decDigits]); have h1 : Lib.itoa 1 = [49] := (by simp [Lib.itoa, Lib.decDigits]); have h6 : Lib.itoa 6 = [54] := (by simp [Lib.itoa, Lib.decDigits]); have h11 : Lib.itoa 11 = [49, 49] := (by simp [Lib.itoa, Lib.decDigits]); have i0 : itB 0 = ⟨#[48]⟩ := (by unfold itB; rw [h0]); have i11 : itB 11 = ⟨#[49, 49]⟩ := (by unfold itB; rw [h11]); have i16 : wdB 1 6 = ⟨#[49, 47, 54]⟩ := (by unfold wdB itB; rw [h1, h6]; decide +kernel); have i01 : wdB 0 1 = ⟨#[48]⟩ := (by unfold wdB; rw [if_neg (by decide)]; exact i0); have hw : yoT.wds 12 = [⟨#[121, 111, 117, 110, 103]⟩, ⟨#[112, 121, 116, 104, 97, 103, 111, 114, 101, 97, 110]⟩, itB 11, wdB 1 6, wdB 1 6, wdB 1 6, wdB 1 6, wdB 1 6, wdB 1 6, wdB 0 1, wdB 0 1, wdB 0 1, wdB 0 1, wdB 0 1, wdB 0 1] := rfl; unfold TV.txt; rw [hw, i11, i16, i01]
  decide +kernel
section
variable {P : Program} {ops : Array Oper} {rest : List Oper} {op : Oper} {a : Act} {w : World} {Q : Exit → Act → World → Prop}
theorem wpList_load_wholek (hw : Region.wanted op (yielded ops a.tmps) = true) (ty : TypeId) (x : Operand) (ho : op.op = .load ty x)
    (g : Nat) (hx : a.eval x = .pointer (some ⟨g, 0, none⟩)) (t : TypeId) (cs : Array Value) (d : TypeDesc) (hB : Blk w g t cs)
    (hu : P.underlying ty = some d) (hd : d.isRow = true) (hi : (P.info? ty).map (·.size) = some cs.size)
    (h : wpList P ops Q rest (a.put op.dst (.agg cs)) w) : wpList P ops Q (op :: rest) a w := by
  refine wpList_step fun K hK => ?_
  rw [if_pos hw]; exact wp_load_all ty x ho g hx t cs d hB hu hd hi (hK _ _ h)
theorem wpList_load_partg (hw : Region.wanted op (yielded ops a.tmps) = true) (ty : TypeId) (x : Operand) (ho : op.op = .load ty x)
    (g o : Nat) (hx : a.eval x = .pointer (some ⟨g, o, none⟩)) (t : TypeId) (cs vs : Array Value) (d : TypeDesc) (hB : Blk w g t cs) (hv : cs.extract o (o + vs.size) = vs)
    (hu : P.underlying ty = some d) (hd : d.isRow = true) (hi : (P.info? ty).map (·.size) = some vs.size)
    (h : wpList P ops Q rest (a.put op.dst (.agg vs)) w) : wpList P ops Q (op :: rest) a w := by
  have hr : w.rangeAt g o vs.toList := by
    have := World.rangeAt_of_block hB o vs.size; rw [hv] at this; exact this
  refine wpList_step fun K hK => ?_
  rw [if_pos hw]; refine wp_load_mid ty x ho g o hx vs.toList d hr hu hd (by rw [hi]; simp) ?_; rw [Array.toArray_toList]; exact hK _ _ h
end
attribute [-simp] Tryz.isAgg67 Tryz.isAgg35 Tryz.isAgg26 Tryz.isAgg24 Tryz.isAgg23
theorem RV.extk (r : RV) : r.cells.extract 0 6 = r.nums := by kernel_rfl
theorem eq_numsk (W : World) (r : RV) : (Op.equalIn 9999 33 (.agg r.nums) (.agg r.nums)).run Tryz.prog W = .ok true W := equal6 W r.n0 r.n1 r.n2 r.n3 r.n4 r.n5
theorem RV.d_cellk (r : RV) : r.cells[6]? = some (.int .i64 r.d) := by kernel_rfl
theorem tabP_below {w w' : World} (h : Lib.TabIs Tryz.prog w "internal/strconv.uint64pow10" .u64 Lib.pow10Tab) (hb : Below w.heap.size w w') : Lib.TabIs Tryz.prog w' "internal/strconv.uint64pow10" .u64 Lib.pow10Tab := by
  unfold Lib.TabIs World.var? at h ⊢; rcases hg : Tryz.prog.globalNamed "internal/strconv.uint64pow10" with _ | g
  · rw [hg] at h; cases h
  · rw [hg] at h; simp only [Option.bind_some] at h ⊢
    have hlt : g < w.heap.size := by
      rcases Nat.lt_or_ge g w.heap.size with h' | h'
      · exact h'
      · rw [Array.getElem?_eq_none h'] at h; cases h
    rw [hb.block g hlt]; exact h
theorem itoa_ok {w : World} (h : Lib.TabIs Tryz.prog w "internal/strconv.uint64pow10" .u64 Lib.pow10Tab) : ItoaOK w := fun z W h1 h2 hb => by
  refine (Tryz.strconv_Itoa z (by omega) (by omega) W (tabP_below h hb)).mono ?_; rintro e w2 ⟨rfl, kk, os, rfl⟩; exact ⟨rfl, Lib.below_grow _ W (Nat.le_refl _) kk os⟩
theorem Told.get {w : World} {v : Value} {n : Nat} {f : Nat → Int} (h : Told w v 0 n f) (hn : 0 < n) : ∃ g cap, v = .slice (some ⟨g, 0, none⟩) n cap ∧ IB w g n f := h.2 ⟨rfl, hn⟩
set_option maxHeartbeats 6400000 in
set_option maxRecDepth 100000 in
theorem temperKnown_any (w : World) (hT : PrT w) (hI : ItoaOK w) : Calls Tryz.prog 6 #[] w fun e w' => e = .returned (.bool true) ∧ Below w.heap.size w w' := by
  have HB : Sl (Below w.heap.size w w) := ⟨Below.refl _ _⟩; have HT : Sl _ := ⟨hT⟩; have HIT : Sl _ := ⟨hI⟩
  have HNeq : Sl (∀ W : World, Calls Tryz.prog 34 #[.string ⟨#[101, 113, 117, 97, 108]⟩] W fun e w' => e = .returned (.agg eqT.cells) ∧ Below W.heap.size W w') := ⟨fun W => by
    have := named_any ⟨#[101, 113, 117, 97, 108]⟩ W; rw [eq_std] at this
    exact this⟩
  have HNpy : Sl (∀ W : World, Calls Tryz.prog 34 #[.string ⟨#[112, 121, 116, 104, 97, 103, 111, 114, 101, 97, 110]⟩] W fun e w' => e = .returned (.agg pyT.cells) ∧ Below W.heap.size W w') := ⟨fun W => by
    have := named_any ⟨#[112, 121, 116, 104, 97, 103, 111, 114, 101, 97, 110]⟩ W; rw [py_std] at this
    exact this⟩
  have HNme : Sl (∀ W : World, Calls Tryz.prog 34 #[.string ⟨#[109, 101, 97, 110, 116, 111, 110, 101]⟩] W fun e w' => e = .returned (.agg meT.cells) ∧ Below W.heap.size W w') := ⟨fun W => by
    have := named_any ⟨#[109, 101, 97, 110, 116, 111, 110, 101]⟩ W; rw [me_std] at this
    exact this⟩
  have HNwe : Sl (∀ W : World, Calls Tryz.prog 34 #[.string ⟨#[119, 101, 114, 99, 107, 109, 101, 105, 115, 116, 101, 114]⟩] W fun e w' => e = .returned (.agg weT.cells) ∧ Below W.heap.size W w') := ⟨fun W => by
    have := named_any ⟨#[119, 101, 114, 99, 107, 109, 101, 105, 115, 116, 101, 114]⟩ W; rw [we_std] at this
    exact this⟩
  have HNki : Sl (∀ W : World, Calls Tryz.prog 34 #[.string ⟨#[107, 105, 114, 110, 98, 101, 114, 103, 101, 114]⟩] W fun e w' => e = .returned (.agg kiT.cells) ∧ Below W.heap.size W w') := ⟨fun W => by
    have := named_any ⟨#[107, 105, 114, 110, 98, 101, 114, 103, 101, 114]⟩ W; rw [ki_std] at this
    exact this⟩
  have HNyo : Sl (∀ W : World, Calls Tryz.prog 34 #[.string ⟨#[121, 111, 117, 110, 103]⟩] W fun e w' => e = .returned (.agg yoT.cells) ∧ Below W.heap.size W w') := ⟨fun W => by
    have := named_any ⟨#[121, 111, 117, 110, 103]⟩ W; rw [yo_std] at this
    exact this⟩
  have HCe : Sl (∀ W : World, PrT W → Calls Tryz.prog 22 #[.agg eqT.cells] W fun e w' => (∃ g cap, e = .returned (.tuple #[.slice (some ⟨g, 0, none⟩) 12 cap, .int .i64 0]) ∧ IB w' g 12 eqT.c) ∧ Below W.heap.size W w') := ⟨fun W h => (tCents_any eqT eq_nm W h).mono fun e w' hh => ⟨by
    obtain ⟨v, rfl, ht⟩ := CentsT.told hh.1; rw [eq_chk] at ht ⊢; obtain ⟨g, cap, rfl, hi⟩ := ht.get (by decide)
    exact ⟨g, cap, rfl, hi⟩, hh.2⟩⟩
  have HCp : Sl (∀ W : World, PrT W → Calls Tryz.prog 22 #[.agg pyT.cells] W fun e w' => (∃ g cap, e = .returned (.tuple #[.slice (some ⟨g, 0, none⟩) 12 cap, .int .i64 0]) ∧ IB w' g 12 pyT.c) ∧ Below W.heap.size W w') := ⟨fun W h => (tCents_any pyT py_nm W h).mono fun e w' hh => ⟨by
    obtain ⟨v, rfl, ht⟩ := CentsT.told hh.1; rw [py_chk] at ht ⊢; obtain ⟨g, cap, rfl, hi⟩ := ht.get (by decide)
    exact ⟨g, cap, rfl, hi⟩, hh.2⟩⟩
  have HOw : Sl (∀ W : World, PrT W → Calls Tryz.prog 24 #[.agg weT.cells] W fun e w' => (∃ g cap, e = .returned (.tuple #[.slice (some ⟨g, 0, none⟩) 12 cap, .int .i64 0]) ∧ IB w' g 12 (weT.of 12)) ∧ Below W.heap.size W w') := ⟨fun W h => (tOff_any weT we_nm h W h).mono fun e w' hh => ⟨by
    obtain ⟨v, rfl, ht⟩ := ILR.told hh.1; rw [we_chk] at ht ⊢; obtain ⟨g, cap, rfl, hi⟩ := ht.get (by decide)
    exact ⟨g, cap, rfl, hi⟩, hh.2⟩⟩
  have HKm : Sl (∀ W : World, PrT W → Calls Tryz.prog 29 #[.agg meT.cells] W fun e w' => (∃ g cap, e = .returned (.tuple #[.slice (some ⟨g, 0, none⟩) 12 cap, .int .i64 0]) ∧ IB w' g 12 (sorty (keyZ meT.ky) ident 11)) ∧ Below W.heap.size W w') := ⟨fun W h => (tKeys_any meT me_nm W h).mono fun e w' hh => ⟨by
    obtain ⟨v, rfl, ht⟩ := ILR.told hh.1; rw [me_chk] at ht ⊢; obtain ⟨g, cap, rfl, hi⟩ := ht.get (by decide)
    exact ⟨g, cap, rfl, hi⟩, hh.2⟩⟩
  have HWm : Sl (∀ W : World, PrT W → Calls Tryz.prog 31 #[.agg meT.cells, .int .i64 10000] W fun e w' => (∃ g cap, e = .returned (.tuple #[.slice (some ⟨g, 0, none⟩) 1 cap, .int .i64 0]) ∧ IB w' g 1 (fun j : Nat => ([8] : List Int)[j]?.getD 0)) ∧ Below W.heap.size W w') := ⟨fun W h => (tWolves_any meT me_nm 10000 h W h).mono fun e w' hh => ⟨by
    obtain ⟨v, rfl, ht⟩ := WoR.told hh.1; rw [me_wc] at ht ⊢; rw [me_wl h] at ht; obtain ⟨g, cap, rfl, hi⟩ := ht.get (by decide)
    exact ⟨g, cap, rfl, hi⟩, hh.2⟩⟩
  have HWe : Sl (∀ W : World, PrT W → Calls Tryz.prog 31 #[.agg eqT.cells, .int .i64 1955] W fun e w' => (∃ g cap, e = .returned (.tuple #[.slice (some ⟨g, 0, none⟩) 12 cap, .int .i64 0])) ∧ Below W.heap.size W w') := ⟨fun W h => (tWolves_any eqT eq_nm 1955 h W h).mono fun e w' hh => ⟨by
    obtain ⟨v, rfl, ht⟩ := WoR.told hh.1; rw [eq_wc] at ht ⊢; rw [eq_wl h] at ht; obtain ⟨g, cap, rfl, hi⟩ := ht.get (by decide)
    exact ⟨g, cap, rfl⟩, hh.2⟩⟩
  have HTm : Sl (∀ W : World, PrT W → Calls Tryz.prog 27 #[.agg meT.cells, .int .i64 0] W fun e w' => e = .returned (.tuple #[.int .i64 0, .int .i64 (-5377), .int .i64 0]) ∧ Below W.heap.size W w') := ⟨fun W h => by
    have := ttriad_any meT me_nm 0 W h; rw [me_tri h] at this
    exact this⟩
  have HBp : Sl (∀ W : World, PrT W → Calls Tryz.prog 20 #[.agg pyT.cells, .int .i64 8, .int .i64 3] W fun e w' => e = .returned (.tuple #[.agg (RV.mk 18 (-11) 0 0 0 0 1).cells, .int .i64 0]) ∧ Below W.heap.size W w') := ⟨fun W h => by
    have := tbetween_any pyT py_nm 8 3 W h; rw [py_btw] at this
    exact this⟩
  have HFk : Sl (∀ W : World, PrT W → Calls Tryz.prog 10 #[.agg kiT.cells] W fun e w' => (∃ g, e = .returned (.tuple #[.slice (some ⟨g, 0, none⟩) 12 12, .int .i64 0]) ∧ W.heap.size ≤ g ∧ Blk w' g 67 (flatR fun k => nr (kiT.tp.f k) kiT.tp.D)) ∧ Below W.heap.size W w') := ⟨fun W h => (tFifths_any kiT ki_nm W h).mono fun e w' hh => ⟨hh.1.2 ki_chk, hh.2⟩⟩
  have HXy : Sl (∀ W : World, ItoaOK W → Calls Tryz.prog 35 #[.agg yoT.cells] W fun e w' => e = .returned (.tuple #[.string ⟨#[121, 111, 117, 110, 103, 32, 112, 121, 116, 104, 97, 103, 111, 114, 101, 97, 110, 32, 49, 49, 32, 49, 47, 54, 32, 49, 47, 54, 32, 49, 47, 54, 32, 49, 47, 54, 32, 49, 47, 54, 32, 49, 47, 54, 32, 48, 32, 48, 32, 48, 32, 48, 32, 48, 32, 48]⟩, .int .i64 0]) ∧ Below W.heap.size W w') := ⟨fun W h => (tText_any yoT yo_nm W h).mono fun e w' hh => ⟨by
      rw [← yo_txt]; exact hh.2.1 yo_chk, hh.2.2⟩⟩
  have HAW : Sl _ := ⟨fun (W : World) (h : PrT W) => awake5_any W h⟩; have HV1 : Sl (eqT.c 7 = 700000 ∧ pyT.c 4 = 407820 ∧ weT.of 12 7 = -3911 ∧ weT.of 12 9 = -11731) := ⟨eq_cv7 hT, py_cv4 hT, by unfold TV.of; rw [if_pos (by decide), we_cv7 hT]; decide, by unfold TV.of; rw [if_pos (by decide), we_cv9 hT]; decide⟩; have HKE : Sl (∀ j, j < 12 → (sorty (keyZ meT.ky) ident 11) j = ([0, 2, 3, 4, 5, 7, 9, 10, 1, 6, 11, 8] : List Int)[j]?.getD 0) := ⟨me_keys hT⟩; clear hT hI; go_enter Tryz.func6, Tryz.ntmps6; go_wp2_with fail; refine (HNeq.out _).mono ?_; rintro e w1 ⟨rfl, hb⟩; replace HB : Sl (Below w.heap.size w w1) := ⟨HB.out.trans (hb.mono HB.out.size)⟩; clear hb; go_wp2_with fail; refine (HCe.out _ (HT.out.below HB.out)).mono ?_; rintro e w2 ⟨⟨gP1, cP1, rfl, ht⟩, hb⟩; replace HB : Sl (Below w.heap.size w w2) := ⟨HB.out.trans (hb.mono HB.out.size)⟩; have P1 : Sl (IB w2 gP1 12 eqT.c) := ⟨ht⟩; clear hb ht; go_wp2_with fail; refine (HNpy.out _).mono ?_; rintro e w3 ⟨rfl, hb⟩; replace P1 : Sl (IB w3 gP1 12 eqT.c) := ⟨P1.out.below hb P1.out.lt⟩; replace HB : Sl (Below w.heap.size w w3) := ⟨HB.out.trans (hb.mono HB.out.size)⟩; clear hb; go_wp2_with fail; refine (HCp.out _ (HT.out.below HB.out)).mono ?_; rintro e w4 ⟨⟨gP2, cP2, rfl, ht⟩, hb⟩; replace P1 : Sl (IB w4 gP1 12 eqT.c) := ⟨P1.out.below hb P1.out.lt⟩; replace HB : Sl (Below w.heap.size w w4) := ⟨HB.out.trans (hb.mono HB.out.size)⟩; have P2 : Sl (IB w4 gP2 12 pyT.c) := ⟨ht⟩; clear hb ht; go_wp2_with fail; refine (HNwe.out _).mono ?_; rintro e w5 ⟨rfl, hb⟩; replace P1 : Sl (IB w5 gP1 12 eqT.c) := ⟨P1.out.below hb P1.out.lt⟩; replace P2 : Sl (IB w5 gP2 12 pyT.c) := ⟨P2.out.below hb P2.out.lt⟩; replace HB : Sl (Below w.heap.size w w5) := ⟨HB.out.trans (hb.mono HB.out.size)⟩; clear hb; go_wp2_with fail; refine (HOw.out _ (HT.out.below HB.out)).mono ?_; rintro e w6 ⟨⟨gP3, cP3, rfl, ht⟩, hb⟩; replace P1 : Sl (IB w6 gP1 12 eqT.c) := ⟨P1.out.below hb P1.out.lt⟩; replace P2 : Sl (IB w6 gP2 12 pyT.c) := ⟨P2.out.below hb P2.out.lt⟩; replace HB : Sl (Below w.heap.size w w6) := ⟨HB.out.trans (hb.mono HB.out.size)⟩; have P3 : Sl (IB w6 gP3 12 (weT.of 12)) := ⟨ht⟩; clear hb ht; obtain ⟨y1, y2, y3, y4⟩ := HV1.out; have k1 := P1.out.cell (j := 7) (by decide); have k2 := P2.out.cell (j := 4) (by decide); have k3 := P3.out.cell (j := 7) (by decide); have k4 := P3.out.cell (j := 9) (by decide); rw [y1] at k1; rw [y2] at k2; rw [y3] at k3; rw [y4] at k4; clear y1 y2 y3 y4; go_wp2_with fail; clear k1 k2 k3 k4 P1 P2 P3; refine (HNme.out _).mono ?_; rintro e w7 ⟨rfl, hb⟩; replace HB : Sl (Below w.heap.size w w7) := ⟨HB.out.trans (hb.mono HB.out.size)⟩; clear hb; go_wp2_with fail; refine (HTm.out _ (HT.out.below HB.out)).mono ?_; rintro e w8 ⟨rfl, hb⟩; replace HB : Sl (Below w.heap.size w w8) := ⟨HB.out.trans (hb.mono HB.out.size)⟩; clear hb; go_wp2_with fail; refine (HNme.out _).mono ?_; rintro e w9 ⟨rfl, hb⟩; replace HB : Sl (Below w.heap.size w w9) := ⟨HB.out.trans (hb.mono HB.out.size)⟩; clear hb; go_wp2_with fail
  refine (HKm.out _ (HT.out.below HB.out)).mono ?_; rintro e w10 ⟨⟨gP5, cP5, rfl, ht⟩, hb⟩; replace HB : Sl (Below w.heap.size w w10) := ⟨HB.out.trans (hb.mono HB.out.size)⟩; have P5 : Sl (IB w10 gP5 12 (sorty (keyZ meT.ky) ident 11)) := ⟨ht⟩; clear hb ht; go_wp2_with fail; refine (HNme.out _).mono ?_; rintro e w11 ⟨rfl, hb⟩; replace P5 : Sl (IB w11 gP5 12 (sorty (keyZ meT.ky) ident 11)) := ⟨P5.out.below hb P5.out.lt⟩; replace HB : Sl (Below w.heap.size w w11) := ⟨HB.out.trans (hb.mono HB.out.size)⟩; clear hb; go_wp2_with fail; refine (HWm.out _ (HT.out.below HB.out)).mono ?_; rintro e w12 ⟨⟨gP6, cP6, rfl, ht⟩, hb⟩; replace P5 : Sl (IB w12 gP5 12 (sorty (keyZ meT.ky) ident 11)) := ⟨P5.out.below hb P5.out.lt⟩; replace HB : Sl (Below w.heap.size w w12) := ⟨HB.out.trans (hb.mono HB.out.size)⟩; have P6 : Sl (IB w12 gP6 1 (fun j : Nat => ([8] : List Int)[j]?.getD 0)) := ⟨ht⟩; clear hb ht; go_wp2_with fail; refine (HNeq.out _).mono ?_; rintro e w13 ⟨rfl, hb⟩; replace P5 : Sl (IB w13 gP5 12 (sorty (keyZ meT.ky) ident 11)) := ⟨P5.out.below hb P5.out.lt⟩; replace P6 : Sl (IB w13 gP6 1 (fun j : Nat => ([8] : List Int)[j]?.getD 0)) := ⟨P6.out.below hb P6.out.lt⟩; replace HB : Sl (Below w.heap.size w w13) := ⟨HB.out.trans (hb.mono HB.out.size)⟩; clear hb; go_wp2_with fail; refine (HWe.out _ (HT.out.below HB.out)).mono ?_; rintro e w14 ⟨⟨gQ, cQ, rfl⟩, hb⟩; replace P5 : Sl (IB w14 gP5 12 (sorty (keyZ meT.ky) ident 11)) := ⟨P5.out.below hb P5.out.lt⟩; replace P6 : Sl (IB w14 gP6 1 (fun j : Nat => ([8] : List Int)[j]?.getD 0)) := ⟨P6.out.below hb P6.out.lt⟩; replace HB : Sl (Below w.heap.size w w14) := ⟨HB.out.trans (hb.mono HB.out.size)⟩; clear hb; go_wp2_with fail; have hb : Below w14.heap.size w14 (w14.alloc (.cells (ints [0, 2, 3, 4, 5, 7, 9, 10, 1, 6, 11, 8]).toArray 3)) := (Below.refl _ _).alloc (Nat.le_refl _) _; have HLI : Sl (IB (w14.alloc (.cells (ints [0, 2, 3, 4, 5, 7, 9, 10, 1, 6, 11, 8]).toArray 3)) w14.heap.size 12 (sorty (keyZ meT.ky) ident 11)) := ⟨(IB.of_blk (L := [0, 2, 3, 4, 5, 7, 9, 10, 1, 6, 11, 8]) (Blk.new _ _ _) rfl).congr (fun j hj => (HKE.out j hj).symm)⟩; replace P5 : Sl (IB (w14.alloc (.cells (ints [0, 2, 3, 4, 5, 7, 9, 10, 1, 6, 11, 8]).toArray 3)) gP5 12 (sorty (keyZ meT.ky) ident 11)) := ⟨P5.out.below hb P5.out.lt⟩; replace P6 : Sl (IB (w14.alloc (.cells (ints [0, 2, 3, 4, 5, 7, 9, 10, 1, 6, 11, 8]).toArray 3)) gP6 1 (fun j : Nat => ([8] : List Int)[j]?.getD 0)) := ⟨P6.out.below hb P6.out.lt⟩; replace HB : Sl (Below w.heap.size w (w14.alloc (.cells (ints [0, 2, 3, 4, 5, 7, 9, 10, 1, 6, 11, 8]).toArray 3))) := ⟨HB.out.trans (hb.mono HB.out.size)⟩; clear hb; refine (sameInts_any (sorty (keyZ meT.ky) ident 11) gP5 _ 12 cP5 12 _ (by decide) P5.out HLI.out).mono ?_; rintro e w15 ⟨rfl, hb⟩; replace P5 : Sl (IB w15 gP5 12 (sorty (keyZ meT.ky) ident 11)) := ⟨P5.out.below hb P5.out.lt⟩; replace P6 : Sl (IB w15 gP6 1 (fun j : Nat => ([8] : List Int)[j]?.getD 0)) := ⟨P6.out.below hb P6.out.lt⟩
  replace HB : Sl (Below w.heap.size w w15) := ⟨HB.out.trans (hb.mono HB.out.size)⟩; clear hb HLI; go_wp2_with fail; have hb : Below w15.heap.size w15 (w15.alloc (.cells (ints [8]).toArray 3)) := (Below.refl _ _).alloc (Nat.le_refl _) _; have HLI : Sl (IB (w15.alloc (.cells (ints [8]).toArray 3)) w15.heap.size 1 (fun j : Nat => ([8] : List Int)[j]?.getD 0)) := ⟨(IB.of_blk (L := [8]) (Blk.new _ _ _) rfl).congr (fun j hj => rfl)⟩; replace P5 : Sl (IB (w15.alloc (.cells (ints [8]).toArray 3)) gP5 12 (sorty (keyZ meT.ky) ident 11)) := ⟨P5.out.below hb P5.out.lt⟩; replace P6 : Sl (IB (w15.alloc (.cells (ints [8]).toArray 3)) gP6 1 (fun j : Nat => ([8] : List Int)[j]?.getD 0)) := ⟨P6.out.below hb P6.out.lt⟩; replace HB : Sl (Below w.heap.size w (w15.alloc (.cells (ints [8]).toArray 3))) := ⟨HB.out.trans (hb.mono HB.out.size)⟩; clear hb; refine (sameInts_any (fun j : Nat => ([8] : List Int)[j]?.getD 0) gP6 _ 1 cP6 1 _ (by decide) P6.out HLI.out).mono ?_; rintro e w16 ⟨rfl, hb⟩; replace P5 : Sl (IB w16 gP5 12 (sorty (keyZ meT.ky) ident 11)) := ⟨P5.out.below hb P5.out.lt⟩; replace P6 : Sl (IB w16 gP6 1 (fun j : Nat => ([8] : List Int)[j]?.getD 0)) := ⟨P6.out.below hb P6.out.lt⟩; replace HB : Sl (Below w.heap.size w w16) := ⟨HB.out.trans (hb.mono HB.out.size)⟩; clear hb HLI; go_wp2_with fail; clear P5 P6; refine (HNpy.out _).mono ?_; rintro e w17 ⟨rfl, hb⟩; replace HB : Sl (Below w.heap.size w w17) := ⟨HB.out.trans (hb.mono HB.out.size)⟩; clear hb; go_wp2_with fail; refine (HBp.out _ (HT.out.below HB.out)).mono ?_; rintro e w18 ⟨rfl, hb⟩; replace HB : Sl (Below w.heap.size w w18) := ⟨HB.out.trans (hb.mono HB.out.size)⟩; clear hb
  go_wp2_with ((with_reducible show wpList _ _ _ _ _ _); first
    | (refine wpList_alloc_new 13 rfl rfl 35 rfl RVzero.cells alloc_ratio ?_; rintro w19 gE zg zm zs zb; have ORD : Sl (w.heap.size ≤ gE) := ⟨by have := HB.out.size; omega⟩; replace HB : Sl (Below w.heap.size w w19) := ⟨below_mv HB.out zm (by have := HB.out.size; have := ORD.out; omega) HB.out.size⟩; have XE : Sl (Blk w19 gE 35 RVzero.cells) := ⟨zb⟩; clear zg zm zs zb)
    | (refine wpList_store_whole rfl 35 (.tmp 13) (.tmp 143) rfl gE (RV.mk 18 (-11) 0 0 0 0 1).cells rfl rfl 35 RVzero.cells XE.out rfl size_ratio (RV.cells_one _) ?_; rintro w20 zm zs zb; replace HB : Sl (Below w.heap.size w w20) := ⟨below_mv HB.out zm (by have := HB.out.size; have := ORD.out; omega) HB.out.size⟩; replace XE : Sl (Blk w20 gE 35 (RV.mk 18 (-11) 0 0 0 0 1).cells) := ⟨zb⟩; clear zm zs zb))
  refine (HNki.out _).mono ?_; rintro e w21 ⟨rfl, hb⟩; replace HB : Sl (Below w.heap.size w w21) := ⟨HB.out.trans (hb.mono HB.out.size)⟩; replace XE : Sl (Blk w21 gE 35 (RV.mk 18 (-11) 0 0 0 0 1).cells) := ⟨XE.out.below hb XE.out.lt⟩; clear hb; go_wp2_with fail; refine (HFk.out _ (HT.out.below HB.out)).mono ?_; rintro e w22 ⟨⟨gF, rfl, hge, zb⟩, hb⟩; replace HB : Sl (Below w.heap.size w w22) := ⟨HB.out.trans (hb.mono HB.out.size)⟩; replace XE : Sl (Blk w22 gE 35 (RV.mk 18 (-11) 0 0 0 0 1).cells) := ⟨XE.out.below hb XE.out.lt⟩; have XF : Sl (Blk w22 gF 67 (flatR fun k => nr (kiT.tp.f k) kiT.tp.D)) := ⟨zb⟩; clear hb hge zb; go_wp2_with fail; refine (HNyo.out _).mono ?_; rintro e w23 ⟨rfl, hb⟩; replace HB : Sl (Below w.heap.size w w23) := ⟨HB.out.trans (hb.mono HB.out.size)⟩; replace XE : Sl (Blk w23 gE 35 (RV.mk 18 (-11) 0 0 0 0 1).cells) := ⟨XE.out.below hb XE.out.lt⟩; replace XF : Sl (Blk w23 gF 67 (flatR fun k => nr (kiT.tp.f k) kiT.tp.D)) := ⟨XF.out.below hb XF.out.lt⟩; clear hb; go_wp2_with fail; refine (HXy.out _ (fun z W h1 h2 hb => HIT.out z W h1 h2 (HB.out.trans (hb.mono HB.out.size)))).mono ?_; rintro e w24 ⟨rfl, hb⟩; replace HB : Sl (Below w.heap.size w w24) := ⟨HB.out.trans (hb.mono HB.out.size)⟩; replace XE : Sl (Blk w24 gE 35 (RV.mk 18 (-11) 0 0 0 0 1).cells) := ⟨XE.out.below hb XE.out.lt⟩; replace XF : Sl (Blk w24 gF 67 (flatR fun k => nr (kiT.tp.f k) kiT.tp.D)) := ⟨XF.out.below hb XF.out.lt⟩; clear hb; have he1 := RV.extk (RV.mk 18 (-11) 0 0 0 0 1); have hd1 := RV.d_cellk (RV.mk 18 (-11) 0 0 0 0 1); have hen1 : ∀ W : World, (Op.equalIn 9999 33 (.agg ((RV.mk 18 (-11) 0 0 0 0 1)).nums) (.agg #[.int .i64 18, .int .i64 (-11), .int .i64 0, .int .i64 0, .int .i64 0, .int .i64 0])).run Tryz.prog W = .ok true W := fun W => eq_numsk W (RV.mk 18 (-11) 0 0 0 0 1)
  have he2 := RV.extk (RV.mk 14 (-7) (-1) 0 0 0 1); have hd2 := RV.d_cellk (RV.mk 14 (-7) (-1) 0 0 0 1); have hen2 : ∀ W : World, (Op.equalIn 9999 33 (.agg ((RV.mk 14 (-7) (-1) 0 0 0 1)).nums) (.agg #[.int .i64 14, .int .i64 (-7), .int .i64 (-1), .int .i64 0, .int .i64 0, .int .i64 0])).run Tryz.prog W = .ok true W := fun W => eq_numsk W (RV.mk 14 (-7) (-1) 0 0 0 1)
  go_wp2_with ((with_reducible show wpList _ _ _ _ _ _); first
    | (refine wpList_load_wholek (by rfl) 35 (.tmp 13) rfl gE rfl 35 (RV.mk 18 (-11) 0 0 0 0 1).cells _ XE.out Tryz.underlying35 rfl size_ratio ?_)
    | (refine wpList_load_partg (by rfl) 35 (.tmp 178) rfl gF (6 * 7) rfl 67 (flatR fun k => nr (kiT.tp.f k) kiT.tp.D) (RV.mk 14 (-7) (-1) 0 0 0 1).cells _ XF.out (by rw [← ki_f6]; exact extR _ (by decide)) Tryz.underlying35 rfl size_ratio ?_))
  refine (HAW.out _ (HT.out.below HB.out)).mono ?_; rintro e w25 ⟨rfl, hb⟩; replace HB : Sl (Below w.heap.size w w25) := ⟨HB.out.trans (hb.mono HB.out.size)⟩; replace XE : Sl (Blk w25 gE 35 (RV.mk 18 (-11) 0 0 0 0 1).cells) := ⟨XE.out.below hb XE.out.lt⟩; replace XF : Sl (Blk w25 gF 67 (flatR fun k => nr (kiT.tp.f k) kiT.tp.D)) := ⟨XF.out.below hb XF.out.lt⟩; clear hb; go_wp2_with fail; go_ret; exact ⟨rfl, HB.out⟩
end Go.Proofs.YtmcoadmnkelkkaaGreatDoor
