/- Package temper: Between, Triad. (Printed by gentemu.py.) Package temper: Cents. (Printed by gentemv.py.) Package temper: tempered. (Printed by gentemw.py.) -/
import Derived.Test.YtmcoadmnkelkkaaDoorTemT
namespace Go.Proofs.YtmcoadmnkelkkaaDoor
set_option linter.unusedSimpArgs false
open Go.RowKit
set_option linter.unusedVariables false

attribute [-simp] Tryd.isAgg34 Tryd.isAgg53 Tryd.isAgg26
/-- what Between returns -/
noncomputable def TV.btw (t : TV) (a b : Int) : RV × Int := if t.chk nameS = 0 then (if (clsB a && clsB b) = true then (t.B a.toNat b.toNat, 0) else (RVzero, 2)) else (RVzero, t.chk nameS)
/-- what Triad returns -/
noncomputable def TV.tri (t : TV) (a : Int) : Int × Int × Int := if t.chk nameS = 0 then (if clsB a = true then (t.xc b54 a.toNat (a.toNat + 4), t.xc b32 a.toNat (a.toNat + 7), 0) else (0, 0, 2)) else (0, 0, t.chk nameS)
set_option maxHeartbeats 6400000 in
set_option maxRecDepth 100000 in
theorem tbetween_any (t : TV) (hs : t.nm.size ≤ maxLen) (a b : Int) (w : World) (hT : PrT w) :
    Calls Tryd.prog 10 #[.agg t.cells, .int .i64 a, .int .i64 b] w fun e w' => OfRes e (t.btw a b) ∧ Below w.heap.size w w' := by
  have HB : Sl (Below w.heap.size w w) := ⟨Below.refl _ _⟩
  have HT : Sl _ := ⟨hT⟩
  have HCK : Sl (∀ W : World, Calls Tryd.prog 7 #[.agg t.cells] W fun e w' => e = .returned (.int .i64 (t.chk nameS)) ∧ Below W.heap.size W w') := ⟨fun W => tcheck_any t W hs⟩
  clear hT hs
  obtain ⟨c, hc⟩ : ∃ c, t.chk nameS = c := ⟨_, rfl⟩
  rw [hc] at HCK
  have HC : Sl _ := ⟨hc⟩
  clear hc
  obtain ⟨sr, hsr⟩ : ∃ s, t.btw a b = s := ⟨_, rfl⟩
  rw [hsr]
  have HSR : Sl _ := ⟨hsr⟩
  clear hsr
  unfold OfRes
  have HCA : Sl (∀ W : World, Calls Tryd.prog 24 #[.int .i64 a] W fun e w' => e = .returned (.bool (clsB a)) ∧ W = w') := ⟨fun W => class_any a W⟩
  have HCB : Sl (∀ W : World, Calls Tryd.prog 24 #[.int .i64 b] W fun e w' => e = .returned (.bool (clsB b)) ∧ W = w') := ⟨fun W => class_any b W⟩
  obtain ⟨ca, hca⟩ : ∃ x, clsB a = x := ⟨_, rfl⟩
  obtain ⟨cb, hcb⟩ : ∃ x, clsB b = x := ⟨_, rfl⟩
  rw [hca] at HCA
  rw [hcb] at HCB
  have HAB : Sl _ := ⟨And.intro hca hcb⟩
  clear hca hcb
  go_enter Tryd.func10, Tryd.ntmps10
  go_wp2_with ((with_reducible show wpList _ _ _ _ _ _); first
    | (refine wpList_box_new 3 rfl rfl 26 (.tmp 0) rfl t.cells rfl (box_temper t) ?_; rintro w1 gT zg zm zs zb; have ORD : Sl (w.heap.size ≤ gT) := ⟨by have := HB.out.size; omega⟩; replace HB : Sl (Below w.heap.size w w1) := ⟨below_mv HB.out zm (by have := HB.out.size; have := ORD.out; omega) HB.out.size⟩; have XT : Sl (Blk w1 gT 26 t.cells) := ⟨zb⟩; clear zg zm zs zb)
    | (refine wpList_alloc_new 6 rfl rfl 34 rfl RVzero.cells alloc_ratio ?_; rintro w2 gR zg zm zs zb; replace ORD : Sl (w.heap.size ≤ gT ∧ gT < gR) := ⟨by have := HB.out.size; have := ORD.out; have := XT.out.lt; omega⟩; replace HB : Sl (Below w.heap.size w w2) := ⟨below_mv HB.out zm (by have := HB.out.size; have := ORD.out; omega) HB.out.size⟩; replace XT : Sl (Blk w2 gT 26 t.cells) := ⟨XT.out.mv zm (by have := XT.out.lt; have := ORD.out; omega)⟩; have XR : Sl (Blk w2 gR 34 RVzero.cells) := ⟨zb⟩; clear zg zm zs zb)
    | (refine wpList_load_whole rfl 26 (.tmp 3) rfl gT rfl 26 t.cells _ XT.out Tryd.underlying26 rfl (size_temper t) ?_))
  refine (HCK.out _).mono ?_; rintro e w3 ⟨rfl, hb⟩
  replace HB : Sl (Below w.heap.size w w3) := ⟨HB.out.trans (hb.mono HB.out.size)⟩
  replace XT : Sl (Blk w3 gT 26 t.cells) := ⟨XT.out.below hb XT.out.lt⟩
  replace XR : Sl (Blk w3 gR 34 RVzero.cells) := ⟨XR.out.below hb XR.out.lt⟩
  clear hb
  by_cases h0 : c = 0
  · subst h0
    cases ca
    · have HV : Sl (sr = (RVzero, 2)) := ⟨by rw [← HSR.out]; unfold TV.btw; rw [if_pos HC.out, HAB.out.1, if_neg (by simp)]⟩
      go_wp2_with fail
      refine (HCA.out _).mono ?_; rintro e wx ⟨rfl, rfl⟩
      go_wp2_with ((with_reducible show wpList _ _ _ _ _ _); first
        | (refine wpList_store_whole rfl 34 (.tmp 6) (.tmp 24) rfl gR RVzero.cells rfl rfl 34 RVzero.cells XR.out rfl size_ratio (RV.cells_one _) ?_; rintro w4 zm zs zb; replace HB : Sl (Below w.heap.size w w4) := ⟨below_mv HB.out zm (by have := HB.out.size; have := ORD.out; omega) HB.out.size⟩; replace XT : Sl (Blk w4 gT 26 t.cells) := ⟨XT.out.mv zm (by have := XT.out.lt; have := ORD.out; omega)⟩; replace XR : Sl (Blk w4 gR 34 RVzero.cells) := ⟨zb⟩; clear zm zs zb))
      refine bodyPost_ret (results_rowR rfl _ _ gR _ _ _ rfl XR.out Tryd.underlying34 rfl size_ratio) rfl ?_
      exact ⟨by rw [HV.out]; rfl, HB.out⟩
    · skip
      cases cb
      · have HV : Sl (sr = (RVzero, 2)) := ⟨by rw [← HSR.out]; unfold TV.btw; rw [if_pos HC.out, HAB.out.1, HAB.out.2, if_neg (by simp)]⟩
        go_wp2_with fail
        refine (HCA.out _).mono ?_; rintro e wx ⟨rfl, rfl⟩
        go_wp2_with fail
        refine (HCB.out _).mono ?_; rintro e wx ⟨rfl, rfl⟩
        go_wp2_with ((with_reducible show wpList _ _ _ _ _ _); first
          | (refine wpList_store_whole rfl 34 (.tmp 6) (.tmp 24) rfl gR RVzero.cells rfl rfl 34 RVzero.cells XR.out rfl size_ratio (RV.cells_one _) ?_; rintro w15 zm zs zb; replace HB : Sl (Below w.heap.size w w15) := ⟨below_mv HB.out zm (by have := HB.out.size; have := ORD.out; omega) HB.out.size⟩; replace XT : Sl (Blk w15 gT 26 t.cells) := ⟨XT.out.mv zm (by have := XT.out.lt; have := ORD.out; omega)⟩; replace XR : Sl (Blk w15 gR 34 RVzero.cells) := ⟨zb⟩; clear zm zs zb))
        refine bodyPost_ret (results_rowR rfl _ _ gR _ _ _ rfl XR.out Tryd.underlying34 rfl size_ratio) rfl ?_
        exact ⟨by rw [HV.out]; rfl, HB.out⟩
      · have hab := HAB.out
        have h1 := clsB_true.1 hab.1
        have h2 := clsB_true.1 hab.2
        obtain ⟨x, rfl⟩ : ∃ x : Nat, a = (x : Int) := ⟨a.toNat, by omega⟩
        obtain ⟨y, rfl⟩ : ∃ y : Nat, b = (y : Int) := ⟨b.toNat, by omega⟩
        have hx : x < 12 := by omega
        have hy : y < 24 := by omega
        have HV : Sl (sr = (t.B x y, 0)) := ⟨by rw [← HSR.out]; unfold TV.btw; rw [if_pos HC.out, hab.1, hab.2, if_pos (by simp)]; rfl⟩
        have HBE : Sl (∀ (g : Nat) (W : World), PrT W → Blk W g 53 (flatR t.N) → Calls Tryd.prog 26 #[.pointer (some ⟨g, 0, none⟩), .int .i64 (x : Int), .int .i64 (y : Int)] W fun e w' => e = .returned (.agg (t.B x y).cells) ∧ Below W.heap.size W w') := ⟨fun g W h hB => between_any t HC.out g x y hx hy W h hB⟩
        have HNO : Sl (∀ (W : World), PrT W → Blk W gT 26 t.cells → Calls Tryd.prog 25 #[.pointer (some ⟨gT, 0, none⟩)] W fun e w' => e = .returned (.agg (flatR t.N)) ∧ Below W.heap.size W w') := ⟨fun W h hB => notes_any t HC.out gT W h hB⟩
        clear hab h1 h2 hx hy
        go_wp2_with fail
        refine (HCA.out _).mono ?_; rintro e wx ⟨rfl, rfl⟩
        go_wp2_with fail
        refine (HCB.out _).mono ?_; rintro e wx ⟨rfl, rfl⟩
        go_wp2_with fail
        refine (HNO.out _ (HT.out.below HB.out) XT.out).mono ?_; rintro e w26 ⟨rfl, hb⟩
        replace HB : Sl (Below w.heap.size w w26) := ⟨HB.out.trans (hb.mono HB.out.size)⟩
        replace XT : Sl (Blk w26 gT 26 t.cells) := ⟨XT.out.below hb XT.out.lt⟩
        replace XR : Sl (Blk w26 gR 34 RVzero.cells) := ⟨XR.out.below hb XR.out.lt⟩
        clear hb
        go_wp2_with ((with_reducible show wpList _ _ _ _ _ _); first
          | (refine wpList_alloc_new 9 rfl rfl 53 rfl (flatR fun _ => RVzero) alloc_twelve ?_; rintro w27 gL zg zm zs zb; replace ORD : Sl (w.heap.size ≤ gT ∧ gT < gR ∧ gR < gL) := ⟨by have := HB.out.size; have := ORD.out; have := XT.out.lt; have := XR.out.lt; omega⟩; replace HB : Sl (Below w.heap.size w w27) := ⟨below_mv HB.out zm (by have := HB.out.size; have := ORD.out; omega) HB.out.size⟩; replace XT : Sl (Blk w27 gT 26 t.cells) := ⟨XT.out.mv zm (by have := XT.out.lt; have := ORD.out; omega)⟩; replace XR : Sl (Blk w27 gR 34 RVzero.cells) := ⟨XR.out.mv zm (by have := XR.out.lt; have := ORD.out; omega)⟩; have XL : Sl (Blk w27 gL 53 (flatR fun _ => RVzero)) := ⟨zb⟩; clear zg zm zs zb)
          | (refine wpList_store_whole rfl 53 (.tmp 9) (.tmp 25) rfl gL (flatR t.N) rfl rfl 53 (flatR fun _ => RVzero) XL.out (by rw [flatR_size, flatR_size]) (size_twelve _) (flatR_one _) ?_; rintro w28 zm zs zb; replace HB : Sl (Below w.heap.size w w28) := ⟨below_mv HB.out zm (by have := HB.out.size; have := ORD.out; omega) HB.out.size⟩; replace XT : Sl (Blk w28 gT 26 t.cells) := ⟨XT.out.mv zm (by have := XT.out.lt; have := ORD.out; omega)⟩; replace XR : Sl (Blk w28 gR 34 RVzero.cells) := ⟨XR.out.mv zm (by have := XR.out.lt; have := ORD.out; omega)⟩; replace XL : Sl (Blk w28 gL 53 (flatR t.N)) := ⟨zb⟩; clear zm zs zb))
        refine (HBE.out _ _ (HT.out.below HB.out) XL.out).mono ?_; rintro e w29 ⟨rfl, hb⟩
        replace HB : Sl (Below w.heap.size w w29) := ⟨HB.out.trans (hb.mono HB.out.size)⟩
        replace XT : Sl (Blk w29 gT 26 t.cells) := ⟨XT.out.below hb XT.out.lt⟩
        replace XR : Sl (Blk w29 gR 34 RVzero.cells) := ⟨XR.out.below hb XR.out.lt⟩
        replace XL : Sl (Blk w29 gL 53 (flatR t.N)) := ⟨XL.out.below hb XL.out.lt⟩
        clear hb
        go_wp2_with ((with_reducible show wpList _ _ _ _ _ _); first
          | (refine wpList_store_whole rfl 34 (.tmp 6) (.tmp 28) rfl gR (t.B x y).cells rfl rfl 34 RVzero.cells XR.out rfl size_ratio (RV.cells_one _) ?_; rintro w30 zm zs zb; replace HB : Sl (Below w.heap.size w w30) := ⟨below_mv HB.out zm (by have := HB.out.size; have := ORD.out; omega) HB.out.size⟩; replace XT : Sl (Blk w30 gT 26 t.cells) := ⟨XT.out.mv zm (by have := XT.out.lt; have := ORD.out; omega)⟩; replace XL : Sl (Blk w30 gL 53 (flatR t.N)) := ⟨XL.out.mv zm (by have := XL.out.lt; have := ORD.out; omega)⟩; replace XR : Sl (Blk w30 gR 34 (t.B x y).cells) := ⟨zb⟩; clear zm zs zb))
        refine bodyPost_ret (results_rowR rfl _ _ gR _ _ _ rfl XR.out Tryd.underlying34 rfl size_ratio) rfl ?_
        exact ⟨by rw [HV.out]; rfl, HB.out⟩
  · have hz : ((c : Int) != 0) = true := by rw [bne_iff_ne]; exact h0
    have HV : Sl (sr = (RVzero, c)) := ⟨by rw [← HSR.out]; unfold TV.btw; rw [if_neg (by rw [HC.out]; exact h0), HC.out]⟩
    clear h0
    go_wp2_with ((with_reducible show wpList _ _ _ _ _ _); first
      | (refine wpList_store_whole rfl 34 (.tmp 6) (.tmp 14) rfl gR RVzero.cells rfl rfl 34 RVzero.cells XR.out rfl size_ratio (RV.cells_one _) ?_; rintro w41 zm zs zb; replace HB : Sl (Below w.heap.size w w41) := ⟨below_mv HB.out zm (by have := HB.out.size; have := ORD.out; omega) HB.out.size⟩; replace XT : Sl (Blk w41 gT 26 t.cells) := ⟨XT.out.mv zm (by have := XT.out.lt; have := ORD.out; omega)⟩; replace XR : Sl (Blk w41 gR 34 RVzero.cells) := ⟨zb⟩; clear zm zs zb))
    refine bodyPost_ret (results_rowR rfl _ _ gR _ _ _ rfl XR.out Tryd.underlying34 rfl size_ratio) rfl ?_
    exact ⟨by rw [HV.out]; rfl, HB.out⟩
set_option maxHeartbeats 6400000 in
set_option maxRecDepth 100000 in
theorem ttriad_any (t : TV) (hs : t.nm.size ≤ maxLen) (a : Int) (w : World) (hT : PrT w) :
    Calls Tryd.prog 23 #[.agg t.cells, .int .i64 a] w fun e w' => e = .returned (.tuple #[.int .i64 (t.tri a).1, .int .i64 (t.tri a).2.1, .int .i64 (t.tri a).2.2]) ∧ Below w.heap.size w w' := by
  have HB : Sl (Below w.heap.size w w) := ⟨Below.refl _ _⟩
  have HT : Sl _ := ⟨hT⟩
  have HCK : Sl (∀ W : World, Calls Tryd.prog 7 #[.agg t.cells] W fun e w' => e = .returned (.int .i64 (t.chk nameS)) ∧ Below W.heap.size W w') := ⟨fun W => tcheck_any t W hs⟩
  clear hT hs
  obtain ⟨c, hc⟩ : ∃ c, t.chk nameS = c := ⟨_, rfl⟩
  rw [hc] at HCK
  have HC : Sl _ := ⟨hc⟩
  clear hc
  obtain ⟨sr, hsr⟩ : ∃ s, t.tri a = s := ⟨_, rfl⟩
  rw [hsr]
  have HSR : Sl _ := ⟨hsr⟩
  clear hsr
  have HCA : Sl (∀ W : World, Calls Tryd.prog 24 #[.int .i64 a] W fun e w' => e = .returned (.bool (clsB a)) ∧ W = w') := ⟨fun W => class_any a W⟩
  obtain ⟨ca, hca⟩ : ∃ x, clsB a = x := ⟨_, rfl⟩
  rw [hca] at HCA
  have HAB : Sl _ := ⟨hca⟩
  clear hca
  go_enter Tryd.func23, Tryd.ntmps23
  go_wp2_with ((with_reducible show wpList _ _ _ _ _ _); first
    | (refine wpList_box_new 2 rfl rfl 26 (.tmp 0) rfl t.cells rfl (box_temper t) ?_; rintro w1 gT zg zm zs zb; have ORD : Sl (w.heap.size ≤ gT) := ⟨by have := HB.out.size; omega⟩; replace HB : Sl (Below w.heap.size w w1) := ⟨below_mv HB.out zm (by have := HB.out.size; have := ORD.out; omega) HB.out.size⟩; have XT : Sl (Blk w1 gT 26 t.cells) := ⟨zb⟩; clear zg zm zs zb)
    | (refine wpList_load_whole rfl 26 (.tmp 2) rfl gT rfl 26 t.cells _ XT.out Tryd.underlying26 rfl (size_temper t) ?_))
  refine (HCK.out _).mono ?_; rintro e w2 ⟨rfl, hb⟩
  replace HB : Sl (Below w.heap.size w w2) := ⟨HB.out.trans (hb.mono HB.out.size)⟩
  replace XT : Sl (Blk w2 gT 26 t.cells) := ⟨XT.out.below hb XT.out.lt⟩
  clear hb
  by_cases h0 : c = 0
  · subst h0
    cases ca
    · have HV : Sl (sr = (0, 0, 2)) := ⟨by rw [← HSR.out]; unfold TV.tri; rw [if_pos HC.out, HAB.out, if_neg (by simp)]⟩
      go_wp2_with fail
      refine (HCA.out _).mono ?_; rintro e wx ⟨rfl, rfl⟩
      go_wp2_with fail
      go_ret3
      exact ⟨by rw [HV.out]; rfl, HB.out⟩
    · have hab := HAB.out
      have h1 := clsB_true.1 hab
      obtain ⟨x, rfl⟩ : ∃ x : Nat, a = (x : Int) := ⟨a.toNat, by omega⟩
      have hx : x < 12 := by omega
      have HV : Sl (sr = (t.xc b54 x (x + 4), t.xc b32 x (x + 7), 0)) := ⟨by rw [← HSR.out]; unfold TV.tri; rw [if_pos HC.out, hab, if_pos rfl]; rfl⟩
      have HTH : Sl (∀ (g : Nat) (W : World), PrT W → Blk W g 53 (flatR t.N) → Calls Tryd.prog 36 #[.pointer (some ⟨g, 0, none⟩), .int .i64 (x : Int)] W fun e w' => e = .returned (.int .i64 (t.xc b54 x (x + 4))) ∧ Below W.heap.size W w') := ⟨fun g W h hB => third_any t HC.out g x hx W h hB⟩
      have HFI : Sl (∀ (g : Nat) (W : World), PrT W → Blk W g 53 (flatR t.N) → Calls Tryd.prog 37 #[.pointer (some ⟨g, 0, none⟩), .int .i64 (x : Int)] W fun e w' => e = .returned (.int .i64 (t.xc b32 x (x + 7))) ∧ Below W.heap.size W w') := ⟨fun g W h hB => fifth_any t HC.out g x hx W h hB⟩
      have HNO : Sl (∀ (W : World), PrT W → Blk W gT 26 t.cells → Calls Tryd.prog 25 #[.pointer (some ⟨gT, 0, none⟩)] W fun e w' => e = .returned (.agg (flatR t.N)) ∧ Below W.heap.size W w') := ⟨fun W h hB => notes_any t HC.out gT W h hB⟩
      clear hab h1 hx
      go_wp2_with fail
      refine (HCA.out _).mono ?_; rintro e wx ⟨rfl, rfl⟩
      go_wp2_with fail
      refine (HNO.out _ (HT.out.below HB.out) XT.out).mono ?_; rintro e w13 ⟨rfl, hb⟩
      replace HB : Sl (Below w.heap.size w w13) := ⟨HB.out.trans (hb.mono HB.out.size)⟩
      replace XT : Sl (Blk w13 gT 26 t.cells) := ⟨XT.out.below hb XT.out.lt⟩
      clear hb
      go_wp2_with ((with_reducible show wpList _ _ _ _ _ _); first
        | (refine wpList_alloc_new 8 rfl rfl 53 rfl (flatR fun _ => RVzero) alloc_twelve ?_; rintro w14 gL zg zm zs zb; replace ORD : Sl (w.heap.size ≤ gT ∧ gT < gL) := ⟨by have := HB.out.size; have := ORD.out; have := XT.out.lt; omega⟩; replace HB : Sl (Below w.heap.size w w14) := ⟨below_mv HB.out zm (by have := HB.out.size; have := ORD.out; omega) HB.out.size⟩; replace XT : Sl (Blk w14 gT 26 t.cells) := ⟨XT.out.mv zm (by have := XT.out.lt; have := ORD.out; omega)⟩; have XL : Sl (Blk w14 gL 53 (flatR fun _ => RVzero)) := ⟨zb⟩; clear zg zm zs zb)
        | (refine wpList_store_whole rfl 53 (.tmp 8) (.tmp 17) rfl gL (flatR t.N) rfl rfl 53 (flatR fun _ => RVzero) XL.out (by rw [flatR_size, flatR_size]) (size_twelve _) (flatR_one _) ?_; rintro w15 zm zs zb; replace HB : Sl (Below w.heap.size w w15) := ⟨below_mv HB.out zm (by have := HB.out.size; have := ORD.out; omega) HB.out.size⟩; replace XT : Sl (Blk w15 gT 26 t.cells) := ⟨XT.out.mv zm (by have := XT.out.lt; have := ORD.out; omega)⟩; replace XL : Sl (Blk w15 gL 53 (flatR t.N)) := ⟨zb⟩; clear zm zs zb))
      refine (HTH.out _ _ (HT.out.below HB.out) XL.out).mono ?_; rintro e w16 ⟨rfl, hb⟩
      replace HB : Sl (Below w.heap.size w w16) := ⟨HB.out.trans (hb.mono HB.out.size)⟩
      replace XT : Sl (Blk w16 gT 26 t.cells) := ⟨XT.out.below hb XT.out.lt⟩
      replace XL : Sl (Blk w16 gL 53 (flatR t.N)) := ⟨XL.out.below hb XL.out.lt⟩
      clear hb
      go_wp2_with fail
      refine (HFI.out _ _ (HT.out.below HB.out) XL.out).mono ?_; rintro e w17 ⟨rfl, hb⟩
      replace HB : Sl (Below w.heap.size w w17) := ⟨HB.out.trans (hb.mono HB.out.size)⟩
      replace XT : Sl (Blk w17 gT 26 t.cells) := ⟨XT.out.below hb XT.out.lt⟩
      replace XL : Sl (Blk w17 gL 53 (flatR t.N)) := ⟨XL.out.below hb XL.out.lt⟩
      clear hb
      go_wp2_with fail
      go_ret3
      exact ⟨by rw [HV.out]; rfl, HB.out⟩
  · have hz : ((c : Int) != 0) = true := by rw [bne_iff_ne]; exact h0
    have HV : Sl (sr = (0, 0, c)) := ⟨by rw [← HSR.out]; unfold TV.tri; rw [if_neg (by rw [HC.out]; exact h0), HC.out]⟩
    clear h0
    go_wp2_with fail
    go_ret3
    exact ⟨by rw [HV.out]; rfl, HB.out⟩
end Go.Proofs.YtmcoadmnkelkkaaDoor
namespace Go.Proofs.YtmcoadmnkelkkaaDoor
set_option linter.unusedSimpArgs false
open Go.RowKit
set_option linter.unusedVariables false

attribute [-simp] Tryd.isAgg34 Tryd.isAgg53 Tryd.isAgg26
theorem reads_i1 (W : World) (T : TypeId) (m : Int) : Reads (W.alloc (.cells #[.int .i64 m] T)) (W.heap.size + 1) 1 (some ⟨W.heap.size, 0, none⟩) 1 [.int .i64 m] := by
  refine ⟨rfl, fun _ => ⟨_, rfl, Nat.lt_succ_self _, fun j u hu => ?_⟩⟩
  have hb := Blk.new W T #[.int .i64 m]
  have e : (⟨W.heap.size, 0, none⟩ : Addr).add j = ⟨W.heap.size, j, none⟩ := by
    unfold Addr.add
    by_cases h : j = 0
    · subst h; simp
    · simp [h]
  rw [e, hb.cell]
  simpa using hu
theorem below_grown2 {w w1 w' : World} {B : Nat} {ob : Obj} {v : Value} {e : TypeId} {n : Nat} {xs : List Value} (hB : Below B w w1) (hs : B ≤ w1.heap.size) (ho : w1.ownsRow B e 1 v n xs) (hg : (w1.alloc ob).grownBy w' v.ownBlock) : Below B w w' :=
  (hB.alloc hs ob).grown hg (by simp; omega) (fun k hk => (ho.lt k hk).1)
def ints (l : List Int) : List Value := l.map (.int .i64)
theorem ints_snoc (l : List Int) (m : Int) : ints (l ++ [m]) = ints l ++ [.int .i64 m] := by unfold ints; rw [List.map_append]; rfl
/-- the millicents of the first notes -/
noncomputable def TV.cl (t : TV) (k : Nat) : List Int := (List.range k).map fun j => cmN (t.tp.n (7 * j % 12)) t.tp.D
theorem TV.cl_succ (t : TV) (k : Nat) : t.cl (k + 1) = t.cl k ++ [cmN (t.tp.n (7 * k % 12)) t.tp.D] := by unfold TV.cl; rw [List.range_succ, List.map_append]; rfl
theorem TV.cl_len (t : TV) (k : Nat) : (t.cl k).length = k := by unfold TV.cl; simp
def CentsT (w w' : World) (e : Ending) (t : TV) : Prop :=
  (t.chk nameS ≠ 0 → e = .returned (.tuple #[.slice none 0 0, .int .i64 (t.chk nameS)])) ∧
  (t.chk nameS = 0 → ∃ v, e = .returned (.tuple #[v, .int .i64 0]) ∧ w'.ownsRow w.heap.size 2 1 v 12 (ints (t.cl 12)))
set_option maxHeartbeats 6400000 in
set_option maxRecDepth 100000 in
theorem tCents_any (t : TV) (hs : t.nm.size ≤ maxLen) (w : World) (hT : PrT w) :
    Calls Tryd.prog 21 #[.agg t.cells] w fun e w' => CentsT w w' e t ∧ Below w.heap.size w w' := by
  have HB : Sl (Below w.heap.size w w) := ⟨Below.refl _ _⟩
  have HT : Sl _ := ⟨hT⟩
  have HCK : Sl (∀ W : World, Calls Tryd.prog 7 #[.agg t.cells] W fun e w' => e = .returned (.int .i64 (t.chk nameS)) ∧ Below W.heap.size W w') := ⟨fun W => tcheck_any t W hs⟩
  clear hT hs
  obtain ⟨c, hc⟩ : ∃ c, t.chk nameS = c := ⟨_, rfl⟩
  rw [hc] at HCK
  have HC : Sl _ := ⟨hc⟩
  clear hc
  obtain ⟨i0, hi0, hz0, hz1, hz2⟩ := info_i64
  have HI : Sl _ := ⟨And.intro hi0 (And.intro hz0 (And.intro hz1 hz2))⟩
  clear hi0 hz0 hz1 hz2
  go_enter Tryd.func21, Tryd.ntmps21
  go_wp2_with ((with_reducible show wpList _ _ _ _ _ _); first
    | (refine wpList_box_new 1 rfl rfl 26 (.tmp 0) rfl t.cells rfl (box_temper t) ?_; rintro w1 gT zg zm zs zb; have ORD : Sl (w.heap.size ≤ gT) := ⟨by have := HB.out.size; omega⟩; replace HB : Sl (Below w.heap.size w w1) := ⟨below_mv HB.out zm (by have := HB.out.size; have := ORD.out; omega) HB.out.size⟩; have XT : Sl (Blk w1 gT 26 t.cells) := ⟨zb⟩; clear zg zm zs zb)
    | (refine wpList_load_whole rfl 26 (.tmp 1) rfl gT rfl 26 t.cells _ XT.out Tryd.underlying26 rfl (size_temper t) ?_))
  refine (HCK.out _).mono ?_; rintro e w2 ⟨rfl, hb⟩
  replace HB : Sl (Below w.heap.size w w2) := ⟨HB.out.trans (hb.mono HB.out.size)⟩
  replace XT : Sl (Blk w2 gT 26 t.cells) := ⟨XT.out.below hb XT.out.lt⟩
  clear hb
  by_cases h0 : c = 0
  · subst h0
    have HTO : Sl _ := ⟨TV.tp_ok HC.out⟩
    have HIX : Sl _ := ⟨fun (W : World) (k : Nat) (hk : k < 12) => idxR t.N W hk⟩
    have HNO : Sl (∀ (W : World), PrT W → Blk W gT 26 t.cells → Calls Tryd.prog 25 #[.pointer (some ⟨gT, 0, none⟩)] W fun e w' => e = .returned (.agg (flatR t.N)) ∧ Below W.heap.size W w') := ⟨fun W h hB => notes_any t HC.out gT W h hB⟩
    obtain ⟨FR, hfr⟩ : ∃ x, flatR t.N = x := ⟨_, rfl⟩
    rw [hfr] at HIX HNO
    clear hfr
    go_wp2_with fail
    refine (HNO.out _ (HT.out.below HB.out) XT.out).mono ?_; rintro e w3 ⟨rfl, hb⟩
    replace HB : Sl (Below w.heap.size w w3) := ⟨HB.out.trans (hb.mono HB.out.size)⟩
    replace XT : Sl (Blk w3 gT 26 t.cells) := ⟨XT.out.below hb XT.out.lt⟩
    clear hb
    go_wp2_with fail
    go_loopw [5, 14] (fun s5 s14 wr => ∃ (k : Nat) (v5 : Value), k ≤ 12 ∧ s14 = .int .i64 k ∧ v5 = s5 ∧ Sl (Below w.heap.size w wr) ∧ Sl (wr.ownsRow w.heap.size 2 1 v5 k (ints (t.cl k)))) (fun _ s14 _ => 12 - (RowKit.intOf s14).toNat)
    case atStart => exact ⟨0, _, by decide, rfl, rfl, HB, ⟨World.ownsRow_nil _ _ _ _⟩⟩
    case round =>
      clear HB XT
      obtain ⟨k, v5, hk, rfl, rfl, HB, XO⟩ := hrel
      by_cases hk12 : k < 12
      · have hix := fun W : World => HIX.out W k hk12
        obtain ⟨m, hm⟩ : ∃ m, cmN (t.tp.n (7 * k % 12)) t.tp.D = m := ⟨_, rfl⟩
        have HM : Sl _ := ⟨hm⟩
        have HCE : Sl (∀ W : World, PrT W → Calls Tryd.prog 35 #[.agg (t.N k).cells] W fun e w' => e = .returned (.int .i64 m) ∧ Below W.heap.size W w') := ⟨fun W h => by
          have hD := HTO.out.hD
          obtain ⟨h1, h2⟩ := HTO.out.n_range (k := 7 * k % 12) (by omega)
          have := tcents_nr (HTO.out.n_fits (k := 7 * k % 12) (by omega)) (h1.mono (by omega)) h2 W h
          rw [hm] at this
          exact this⟩
        clear hm
        have ORD : Sl True := ⟨trivial⟩
        go_wp2_with ((with_reducible show wpList _ _ _ _ _ _); first
          | (refine wpList_alloc_new 7 rfl rfl 34 rfl RVzero.cells alloc_ratio ?_; rintro w4 gP zg zm zs zb; replace ORD : Sl (w.heap.size ≤ gP) := ⟨by have := HB.out.size; omega⟩; have OBXOP : Sl (∀ zk, v5.ownBlock = some zk → zk < gP) := ⟨fun zk hk => by have := (XO.out.lt zk hk).2; omega⟩; replace HB : Sl (Below w.heap.size w w4) := ⟨below_mv HB.out zm (by have := HB.out.size; have := ORD.out; omega) HB.out.size⟩; replace XO : Sl (w4.ownsRow w.heap.size 2 1 v5 k (ints (t.cl k))) := ⟨own_mv XO.out zm (fun zk hk => by have := (XO.out.lt zk hk).2; omega)⟩; have XP : Sl (Blk w4 gP 34 RVzero.cells) := ⟨zb⟩; clear zg zm zs zb)
          | (refine wpList_store_whole rfl 34 (.tmp 7) (.tmp 16) rfl gP (t.N k).cells rfl rfl 34 RVzero.cells XP.out rfl size_ratio (RV.cells_one _) ?_; rintro w5 zm zs zb; replace HB : Sl (Below w.heap.size w w5) := ⟨below_mv HB.out zm (by have := HB.out.size; have := ORD.out; omega) HB.out.size⟩; replace XO : Sl (w5.ownsRow w.heap.size 2 1 v5 k (ints (t.cl k))) := ⟨own_mv XO.out zm (fun zk hk => by have := OBXOP.out zk hk; omega)⟩; replace XP : Sl (Blk w5 gP 34 (t.N k).cells) := ⟨zb⟩; clear zm zs zb)
          | (refine wpList_load_whole rfl 34 (.tmp 7) rfl gP rfl 34 (t.N k).cells _ XP.out Tryd.underlying34 rfl size_ratio ?_))
        refine (HCE.out _ (HT.out.below HB.out)).mono ?_; rintro e w6 ⟨rfl, hb⟩
        replace HB : Sl (Below w.heap.size w w6) := ⟨HB.out.trans (hb.mono HB.out.size)⟩
        replace XP : Sl (Blk w6 gP 34 (t.N k).cells) := ⟨XP.out.below hb XP.out.lt⟩
        replace XO : Sl (w6.ownsRow w.heap.size 2 1 v5 k (ints (t.cl k))) := ⟨own_mv XO.out (Mv.of_below hb) (fun zk hk => by have := (XO.out.lt zk hk).2; omega)⟩
        clear hb
        go_wp2_with ((with_reducible show wpList _ _ _ _ _ _); first
          | (at_builtin; go_loud (refine wpList_append_any _ rfl (.tmp 17) (.tmp 20) _ rfl w.heap.size 2 i0 _ 1 8 Tryd.underlying46 HI.out.1 HI.out.2.1 HI.out.2.2.1 HI.out.2.2.2 rfl (by decide) v5 k _ rfl (own_alloc XO.out _) _ (some ⟨w6.heap.size, 0, none⟩) 1 1 [.int .i64 m] rfl (reads_i1 _ _ _) (by intro u hu; simp at hu; subst hu; rfl) (by unfold maxLen; omega) (by omega) (by have := HB.out.size; simp; omega) ?_); rintro v6 wN hown hg hat; have XQ : Sl (wN.ownsRow w.heap.size 2 1 v6 (k + 1) (ints (t.cl (k + 1)))) := ⟨by rw [TV.cl_succ, ints_snoc, HM.out]; exact hown⟩; have HBN : Sl (Below w.heap.size w wN) := ⟨below_grown2 HB.out HB.out.size XO.out hg⟩; clear hown hg hat))
        exact ⟨⟨k + 1, v6, hk12, by go_num, rfl, HBN, XQ⟩, by simp [RowKit.intOf]; omega⟩
      · obtain rfl : k = 12 := by omega
        clear hk12
        go_wp2_with fail
        go_ret2
        exact ⟨⟨fun h => absurd HC.out h, fun _ => ⟨v5, rfl, XO.out⟩⟩, HB.out⟩
  · have hz : ((c : Int) != 0) = true := by rw [bne_iff_ne]; exact h0
    go_wp2_with fail
    go_ret2
    exact ⟨⟨fun _ => by rw [HC.out]; rfl, fun h => absurd (HC.out.symm.trans h) h0⟩, HB.out⟩
end Go.Proofs.YtmcoadmnkelkkaaDoor
namespace Go.Proofs.YtmcoadmnkelkkaaDoor
set_option linter.unusedSimpArgs false
open Go.RowKit
set_option linter.unusedVariables false

/-- no temperament -/
def TV0 : TV := ⟨⟨#[]⟩, false, 0, fun _ => 0, fun _ => 0⟩
theorem alloc_temper (w : World) : (Instr.alloc 26 true (.tuple #[])).run Tryd.prog w = .ok (.pointer (some ⟨w.heap.size, 0, none⟩)) (w.alloc (.cells TV0.cells 26)) := by kernel_rfl
theorem TV.cells_ext {s t : TV} (h1 : s.nm = t.nm) (h2 : s.syn = t.syn) (h3 : s.wolf = t.wolf) (h4 : ∀ i, i < 12 → s.num i = t.num i) (h5 : ∀ i, i < 12 → s.den i = t.den i) : s.cells = t.cells := by
  have n0 := h4 0 (by decide)
  have d0 := h5 0 (by decide)
  have n1 := h4 1 (by decide)
  have d1 := h5 1 (by decide)
  have n2 := h4 2 (by decide)
  have d2 := h5 2 (by decide)
  have n3 := h4 3 (by decide)
  have d3 := h5 3 (by decide)
  have n4 := h4 4 (by decide)
  have d4 := h5 4 (by decide)
  have n5 := h4 5 (by decide)
  have d5 := h5 5 (by decide)
  have n6 := h4 6 (by decide)
  have d6 := h5 6 (by decide)
  have n7 := h4 7 (by decide)
  have d7 := h5 7 (by decide)
  have n8 := h4 8 (by decide)
  have d8 := h5 8 (by decide)
  have n9 := h4 9 (by decide)
  have d9 := h5 9 (by decide)
  have n10 := h4 10 (by decide)
  have d10 := h5 10 (by decide)
  have n11 := h4 11 (by decide)
  have d11 := h5 11 (by decide)
  unfold TV.cells
  rw [h1, h2, h3, n0, d0, n1, d1, n2, d2, n3, d3, n4, d4, n5, d5, n6, d6, n7, d7, n8, d8, n9, d9, n10, d10, n11, d11]
theorem TV.den_0 (t : TV) (d : Int) : t.cells.setIfInBounds (3 + 0 * 2 + 1) (.int .i64 d) = (TV.mk t.nm t.syn t.wolf t.num (fun i => if i = 0 then d else t.den i)).cells := by kernel_rfl
theorem TV.part_0 (t : TV) (n d : Int) : putA t.cells (3 + 0 * 2) (#[Value.int .i64 n, .int .i64 d]).toList = (TV.mk t.nm t.syn t.wolf (fun i => if i = 0 then n else t.num i) (fun i => if i = 0 then d else t.den i)).cells := by kernel_rfl
theorem TV.den_1 (t : TV) (d : Int) : t.cells.setIfInBounds (3 + 1 * 2 + 1) (.int .i64 d) = (TV.mk t.nm t.syn t.wolf t.num (fun i => if i = 1 then d else t.den i)).cells := by kernel_rfl
theorem TV.part_1 (t : TV) (n d : Int) : putA t.cells (3 + 1 * 2) (#[Value.int .i64 n, .int .i64 d]).toList = (TV.mk t.nm t.syn t.wolf (fun i => if i = 1 then n else t.num i) (fun i => if i = 1 then d else t.den i)).cells := by kernel_rfl
theorem TV.den_2 (t : TV) (d : Int) : t.cells.setIfInBounds (3 + 2 * 2 + 1) (.int .i64 d) = (TV.mk t.nm t.syn t.wolf t.num (fun i => if i = 2 then d else t.den i)).cells := by kernel_rfl
theorem TV.part_2 (t : TV) (n d : Int) : putA t.cells (3 + 2 * 2) (#[Value.int .i64 n, .int .i64 d]).toList = (TV.mk t.nm t.syn t.wolf (fun i => if i = 2 then n else t.num i) (fun i => if i = 2 then d else t.den i)).cells := by kernel_rfl
theorem TV.den_3 (t : TV) (d : Int) : t.cells.setIfInBounds (3 + 3 * 2 + 1) (.int .i64 d) = (TV.mk t.nm t.syn t.wolf t.num (fun i => if i = 3 then d else t.den i)).cells := by kernel_rfl
theorem TV.part_3 (t : TV) (n d : Int) : putA t.cells (3 + 3 * 2) (#[Value.int .i64 n, .int .i64 d]).toList = (TV.mk t.nm t.syn t.wolf (fun i => if i = 3 then n else t.num i) (fun i => if i = 3 then d else t.den i)).cells := by kernel_rfl
theorem TV.den_4 (t : TV) (d : Int) : t.cells.setIfInBounds (3 + 4 * 2 + 1) (.int .i64 d) = (TV.mk t.nm t.syn t.wolf t.num (fun i => if i = 4 then d else t.den i)).cells := by kernel_rfl
theorem TV.part_4 (t : TV) (n d : Int) : putA t.cells (3 + 4 * 2) (#[Value.int .i64 n, .int .i64 d]).toList = (TV.mk t.nm t.syn t.wolf (fun i => if i = 4 then n else t.num i) (fun i => if i = 4 then d else t.den i)).cells := by kernel_rfl
theorem TV.den_5 (t : TV) (d : Int) : t.cells.setIfInBounds (3 + 5 * 2 + 1) (.int .i64 d) = (TV.mk t.nm t.syn t.wolf t.num (fun i => if i = 5 then d else t.den i)).cells := by kernel_rfl
theorem TV.part_5 (t : TV) (n d : Int) : putA t.cells (3 + 5 * 2) (#[Value.int .i64 n, .int .i64 d]).toList = (TV.mk t.nm t.syn t.wolf (fun i => if i = 5 then n else t.num i) (fun i => if i = 5 then d else t.den i)).cells := by kernel_rfl
theorem TV.den_6 (t : TV) (d : Int) : t.cells.setIfInBounds (3 + 6 * 2 + 1) (.int .i64 d) = (TV.mk t.nm t.syn t.wolf t.num (fun i => if i = 6 then d else t.den i)).cells := by kernel_rfl
theorem TV.part_6 (t : TV) (n d : Int) : putA t.cells (3 + 6 * 2) (#[Value.int .i64 n, .int .i64 d]).toList = (TV.mk t.nm t.syn t.wolf (fun i => if i = 6 then n else t.num i) (fun i => if i = 6 then d else t.den i)).cells := by kernel_rfl
theorem TV.den_7 (t : TV) (d : Int) : t.cells.setIfInBounds (3 + 7 * 2 + 1) (.int .i64 d) = (TV.mk t.nm t.syn t.wolf t.num (fun i => if i = 7 then d else t.den i)).cells := by kernel_rfl
theorem TV.part_7 (t : TV) (n d : Int) : putA t.cells (3 + 7 * 2) (#[Value.int .i64 n, .int .i64 d]).toList = (TV.mk t.nm t.syn t.wolf (fun i => if i = 7 then n else t.num i) (fun i => if i = 7 then d else t.den i)).cells := by kernel_rfl
theorem TV.den_8 (t : TV) (d : Int) : t.cells.setIfInBounds (3 + 8 * 2 + 1) (.int .i64 d) = (TV.mk t.nm t.syn t.wolf t.num (fun i => if i = 8 then d else t.den i)).cells := by kernel_rfl
theorem TV.part_8 (t : TV) (n d : Int) : putA t.cells (3 + 8 * 2) (#[Value.int .i64 n, .int .i64 d]).toList = (TV.mk t.nm t.syn t.wolf (fun i => if i = 8 then n else t.num i) (fun i => if i = 8 then d else t.den i)).cells := by kernel_rfl
theorem TV.den_9 (t : TV) (d : Int) : t.cells.setIfInBounds (3 + 9 * 2 + 1) (.int .i64 d) = (TV.mk t.nm t.syn t.wolf t.num (fun i => if i = 9 then d else t.den i)).cells := by kernel_rfl
theorem TV.part_9 (t : TV) (n d : Int) : putA t.cells (3 + 9 * 2) (#[Value.int .i64 n, .int .i64 d]).toList = (TV.mk t.nm t.syn t.wolf (fun i => if i = 9 then n else t.num i) (fun i => if i = 9 then d else t.den i)).cells := by kernel_rfl
theorem TV.den_10 (t : TV) (d : Int) : t.cells.setIfInBounds (3 + 10 * 2 + 1) (.int .i64 d) = (TV.mk t.nm t.syn t.wolf t.num (fun i => if i = 10 then d else t.den i)).cells := by kernel_rfl
theorem TV.part_10 (t : TV) (n d : Int) : putA t.cells (3 + 10 * 2) (#[Value.int .i64 n, .int .i64 d]).toList = (TV.mk t.nm t.syn t.wolf (fun i => if i = 10 then n else t.num i) (fun i => if i = 10 then d else t.den i)).cells := by kernel_rfl
theorem TV.den_11 (t : TV) (d : Int) : t.cells.setIfInBounds (3 + 11 * 2 + 1) (.int .i64 d) = (TV.mk t.nm t.syn t.wolf t.num (fun i => if i = 11 then d else t.den i)).cells := by kernel_rfl
theorem TV.part_11 (t : TV) (n d : Int) : putA t.cells (3 + 11 * 2) (#[Value.int .i64 n, .int .i64 d]).toList = (TV.mk t.nm t.syn t.wolf (fun i => if i = 11 then n else t.num i) (fun i => if i = 11 then d else t.den i)).cells := by kernel_rfl
theorem TV.den_at (t : TV) (d : Int) {k : Nat} (hk : k < 12) : t.cells.setIfInBounds (3 + k * 2 + 1) (.int .i64 d) = (TV.mk t.nm t.syn t.wolf t.num (fun i => if i = k then d else t.den i)).cells := by
  have h : k = 0 ∨ k = 1 ∨ k = 2 ∨ k = 3 ∨ k = 4 ∨ k = 5 ∨ k = 6 ∨ k = 7 ∨ k = 8 ∨ k = 9 ∨ k = 10 ∨ k = 11 := by omega
  rcases h with rfl | rfl | rfl | rfl | rfl | rfl | rfl | rfl | rfl | rfl | rfl | rfl
  · exact t.den_0 d
  · exact t.den_1 d
  · exact t.den_2 d
  · exact t.den_3 d
  · exact t.den_4 d
  · exact t.den_5 d
  · exact t.den_6 d
  · exact t.den_7 d
  · exact t.den_8 d
  · exact t.den_9 d
  · exact t.den_10 d
  · exact t.den_11 d
theorem TV.part_at (t : TV) (n d : Int) {k : Nat} (hk : k < 12) : putA t.cells (3 + k * 2) (#[Value.int .i64 n, .int .i64 d]).toList = (TV.mk t.nm t.syn t.wolf (fun i => if i = k then n else t.num i) (fun i => if i = k then d else t.den i)).cells := by
  have h : k = 0 ∨ k = 1 ∨ k = 2 ∨ k = 3 ∨ k = 4 ∨ k = 5 ∨ k = 6 ∨ k = 7 ∨ k = 8 ∨ k = 9 ∨ k = 10 ∨ k = 11 := by omega
  rcases h with rfl | rfl | rfl | rfl | rfl | rfl | rfl | rfl | rfl | rfl | rfl | rfl
  · exact t.part_0 n d
  · exact t.part_1 n d
  · exact t.part_2 n d
  · exact t.part_3 n d
  · exact t.part_4 n d
  · exact t.part_5 n d
  · exact t.part_6 n d
  · exact t.part_7 n d
  · exact t.part_8 n d
  · exact t.part_9 n d
  · exact t.part_10 n d
  · exact t.part_11 n d
/-- a temperament of which the fifths in a list are narrower; its first parts -/
def TV.mk5 (nm : ByteArray) (syn : Bool) (wolf den : Int) (L : List Int) (k : Nat) : TV := ⟨nm, syn, wolf, fun i => if i < k ∧ L.contains (i : Int) = true then 1 else 0, fun i => if i < k then (if L.contains (i : Int) = true then den else 1) else 0⟩
theorem TV.mk5_zero (nm : ByteArray) (syn : Bool) (wolf den : Int) (L : List Int) : (TV.mk nm syn wolf (fun _ => 0) (fun _ => 0)).cells = (TV.mk5 nm syn wolf den L 0).cells :=
  TV.cells_ext rfl rfl rfl (fun i _ => by show (0 : Int) = if i < 0 ∧ L.contains (i : Int) = true then 1 else 0; rw [if_neg (by omega)]) (fun i _ => by show (0 : Int) = if i < 0 then (if L.contains (i : Int) = true then den else 1) else 0; rw [if_neg (by omega)])
theorem TV.mk5_out {nm : ByteArray} {syn : Bool} {wolf den : Int} {L : List Int} {k : Nat} (hk : k < 12) (h : L.contains (k : Int) = false) : (TV.mk5 nm syn wolf den L k).cells.setIfInBounds (3 + k * 2 + 1) (.int .i64 1) = (TV.mk5 nm syn wolf den L (k + 1)).cells := by
  rw [TV.den_at _ _ hk]
  refine TV.cells_ext rfl rfl rfl (fun i _ => ?_) (fun i _ => ?_)
  · show (if i < k ∧ L.contains (i : Int) = true then (1 : Int) else 0) = if i < k + 1 ∧ L.contains (i : Int) = true then 1 else 0
    by_cases h0 : i = k
    · subst h0; rw [if_neg (by omega), if_neg (by rw [h]; simp)]
    · by_cases h1 : i < k ∧ L.contains (i : Int) = true
      · rw [if_pos h1, if_pos ⟨by omega, h1.2⟩]
      · rw [if_neg h1, if_neg (fun h2 => h1 ⟨by omega, h2.2⟩)]
  · show (if i = k then 1 else if i < k then (if L.contains (i : Int) = true then den else 1) else 0) = if i < k + 1 then (if L.contains (i : Int) = true then den else 1) else 0
    by_cases h0 : i = k
    · subst h0; rw [if_pos rfl, if_pos (show i < i + 1 by omega), if_neg (by rw [h]; simp)]
    · by_cases h1 : i < k
      · rw [if_neg h0, if_pos h1, if_pos (show i < k + 1 by omega)]
      · rw [if_neg h0, if_neg h1, if_neg (show ¬ i < k + 1 by omega)]
theorem TV.mk5_in {nm : ByteArray} {syn : Bool} {wolf den : Int} {L : List Int} {k : Nat} (hk : k < 12) (h : L.contains (k : Int) = true) : putA ((TV.mk5 nm syn wolf den L k).cells.setIfInBounds (3 + k * 2 + 1) (.int .i64 1)) (3 + k * 2) (#[Value.int .i64 1, .int .i64 den]).toList = (TV.mk5 nm syn wolf den L (k + 1)).cells := by
  rw [TV.den_at _ _ hk, TV.part_at _ _ _ hk]
  refine TV.cells_ext rfl rfl rfl (fun i _ => ?_) (fun i _ => ?_)
  · show (if i = k then (1 : Int) else if i < k ∧ L.contains (i : Int) = true then 1 else 0) = if i < k + 1 ∧ L.contains (i : Int) = true then 1 else 0
    by_cases h0 : i = k
    · subst h0; rw [if_pos rfl, if_pos ⟨by omega, h⟩]
    · rw [if_neg h0]
      by_cases h1 : i < k ∧ L.contains (i : Int) = true
      · rw [if_pos h1, if_pos ⟨by omega, h1.2⟩]
      · rw [if_neg h1, if_neg (fun h2 => h1 ⟨by omega, h2.2⟩)]
  · show (if i = k then den else if i = k then 1 else if i < k then (if L.contains (i : Int) = true then den else 1) else 0) = if i < k + 1 then (if L.contains (i : Int) = true then den else 1) else 0
    by_cases h0 : i = k
    · subst h0; rw [if_pos rfl, if_pos (show i < i + 1 by omega), if_pos h]
    · by_cases h1 : i < k
      · rw [if_neg h0, if_neg h0, if_pos h1, if_pos (show i < k + 1 by omega)]
      · rw [if_neg h0, if_neg h0, if_neg h1, if_neg (show ¬ i < k + 1 by omega)]
attribute [-simp] Tryd.isAgg26 Tryd.isAgg24 Tryd.isAgg23
theorem size_int : (Tryd.prog.info? 3).map (·.size) = some 1 := by kernel_rfl
set_option maxHeartbeats 6400000 in
set_option maxRecDepth 100000 in
theorem tempered_any (nm : ByteArray) (syn : Bool) (wolf den : Int) (L : List Int) (sl : Value) (w : World)
    (HL : Sl (∀ (W : World) (x : Int), Below w.heap.size w W → Calls Tryd.prog 47 #[sl, .int .i64 x] W fun e w' => e = .returned (.bool (L.contains x)) ∧ w' = W)) :
    Calls Tryd.prog 29 #[.string nm, .bool syn, .int .i64 wolf, .int .i64 den, sl] w fun e w' => e = .returned (.tuple #[.agg (TV.mk5 nm syn wolf den L 12).cells, .int .i64 0]) ∧ Below w.heap.size w w' := by
  have HB : Sl (Below w.heap.size w w) := ⟨Below.refl _ _⟩
  go_enter Tryd.func29, Tryd.ntmps29
  go_wp2_with ((with_reducible show wpList _ _ _ _ _ _); first
    | (refine wpList_alloc_new 10 rfl rfl 26 rfl TV0.cells alloc_temper ?_; rintro w1 gR zg zm zs zb; have ORD : Sl (w.heap.size ≤ gR) := ⟨by have := HB.out.size; omega⟩; replace HB : Sl (Below w.heap.size w w1) := ⟨below_mv HB.out zm (by have := HB.out.size; have := ORD.out; omega) HB.out.size⟩; have XR : Sl (Blk w1 gR 26 TV0.cells) := ⟨zb⟩; clear zg zm zs zb)
    | (refine wpList_alloc_new 12 rfl rfl 26 rfl TV0.cells alloc_temper ?_; rintro w2 gU zg zm zs zb; replace ORD : Sl (w.heap.size ≤ gR ∧ gR < gU) := ⟨by have := HB.out.size; have := ORD.out; have := XR.out.lt; omega⟩; replace HB : Sl (Below w.heap.size w w2) := ⟨below_mv HB.out zm (by have := HB.out.size; have := ORD.out; omega) HB.out.size⟩; replace XR : Sl (Blk w2 gR 26 TV0.cells) := ⟨XR.out.mv zm (by have := XR.out.lt; have := ORD.out; omega)⟩; have XU : Sl (Blk w2 gU 26 TV0.cells) := ⟨zb⟩; clear zg zm zs zb)
    | (refine wpList_store_whole rfl 26 (.tmp 12) (.tmp 17) rfl gU (TV.mk nm syn wolf (fun _ => 0) (fun _ => 0)).cells rfl rfl 26 TV0.cells XU.out rfl (size_temper _) (TV.cells_one _) ?_; rintro w3 zm zs zb; replace HB : Sl (Below w.heap.size w w3) := ⟨below_mv HB.out zm (by have := HB.out.size; have := ORD.out; omega) HB.out.size⟩; replace XR : Sl (Blk w3 gR 26 TV0.cells) := ⟨XR.out.mv zm (by have := XR.out.lt; have := ORD.out; omega)⟩; replace XU : Sl (Blk w3 gU 26 (TV.mk nm syn wolf (fun _ => 0) (fun _ => 0)).cells) := ⟨zb⟩; clear zm zs zb))
  replace XU : Sl (Blk w3 gU 26 (TV.mk5 nm syn wolf den L 0).cells) := ⟨by rw [← TV.mk5_zero]; exact XU.out⟩
  go_loopw [18] (fun s18 wr => ∃ k : Nat, k ≤ 12 ∧ s18 = .int .i64 k ∧ Sl (Below w.heap.size w wr) ∧ Sl (Blk wr gR 26 TV0.cells) ∧ Sl (Blk wr gU 26 (TV.mk5 nm syn wolf den L k).cells)) (fun s18 _ => 12 - (RowKit.intOf s18).toNat)
  case atStart => exact ⟨0, by decide, rfl, HB, XR, XU⟩
  case round =>
    clear HB XR XU
    obtain ⟨k, hk, rfl, HB, XR, XU⟩ := hrel
    by_cases hk12 : k < 12
    · have hk0 : (0 : Int) ≤ (k : Int) := by omega
      have hk1 : (k : Int) < 12 := by omega
      by_cases hin : L.contains (k : Int) = true
      · have HIN : Sl _ := ⟨hin⟩
        clear hin
        go_wp2_with ((with_reducible show wpList _ _ _ _ _ _); first
          | (refine wpList_store_int rfl 3 (.tmp 24) _ rfl gU (3 + k * 2 + 1) .i64 (1) rfl rfl 26 (TV.mk5 nm syn wolf den L k).cells ((TV.mk5 nm syn wolf den L k).cells.setIfInBounds (3 + k * 2 + 1) (.int .i64 1)) XU.out (by rw [TV.cells_size]; omega) rfl size_int ?_; rintro w4 zm zs zb; replace HB : Sl (Below w.heap.size w w4) := ⟨below_mv HB.out zm (by have := HB.out.size; have := ORD.out; omega) HB.out.size⟩; replace XR : Sl (Blk w4 gR 26 TV0.cells) := ⟨XR.out.mv zm (by have := XR.out.lt; have := ORD.out; omega)⟩; replace XU : Sl (Blk w4 gU 26 ((TV.mk5 nm syn wolf den L k).cells.setIfInBounds (3 + k * 2 + 1) (.int .i64 1))) := ⟨zb⟩; clear zm zs zb))
        refine (HL.out _ _ HB.out).mono ?_; rintro e wx ⟨rfl, rfl⟩
        rw [HIN.out]
        go_wp2_with ((with_reducible show wpList _ _ _ _ _ _); first
          | (refine wpList_store_part rfl 23 (.tmp 32) (.tmp 30) rfl gU (3 + k * 2) #[.int .i64 1, .int .i64 den] rfl rfl 26 ((TV.mk5 nm syn wolf den L k).cells.setIfInBounds (3 + k * 2 + 1) (.int .i64 1)) (TV.mk5 nm syn wolf den L (k + 1)).cells XU.out (by rw [Array.size_setIfInBounds, TV.cells_size]; show 3 + k * 2 + 2 ≤ 27; omega) (TV.mk5_in hk12 HIN.out) (size_part _ _) (part_one _ _) ?_; rintro w5 zm zs zb; replace HB : Sl (Below w.heap.size w w5) := ⟨below_mv HB.out zm (by have := HB.out.size; have := ORD.out; omega) HB.out.size⟩; replace XR : Sl (Blk w5 gR 26 TV0.cells) := ⟨XR.out.mv zm (by have := XR.out.lt; have := ORD.out; omega)⟩; replace XU : Sl (Blk w5 gU 26 (TV.mk5 nm syn wolf den L (k + 1)).cells) := ⟨zb⟩; clear zm zs zb))
        exact ⟨⟨k + 1, hk12, by go_num, HB, XR, XU⟩, by simp [RowKit.intOf]; omega⟩
      · have HIN : Sl (L.contains (k : Int) = false) := ⟨by simpa using hin⟩
        clear hin
        go_wp2_with ((with_reducible show wpList _ _ _ _ _ _); first
          | (refine wpList_store_int rfl 3 (.tmp 24) _ rfl gU (3 + k * 2 + 1) .i64 (1) rfl rfl 26 (TV.mk5 nm syn wolf den L k).cells (TV.mk5 nm syn wolf den L (k + 1)).cells XU.out (by rw [TV.cells_size]; omega) (TV.mk5_out hk12 HIN.out) size_int ?_; rintro w16 zm zs zb; replace HB : Sl (Below w.heap.size w w16) := ⟨below_mv HB.out zm (by have := HB.out.size; have := ORD.out; omega) HB.out.size⟩; replace XR : Sl (Blk w16 gR 26 TV0.cells) := ⟨XR.out.mv zm (by have := XR.out.lt; have := ORD.out; omega)⟩; replace XU : Sl (Blk w16 gU 26 (TV.mk5 nm syn wolf den L (k + 1)).cells) := ⟨zb⟩; clear zm zs zb))
        refine (HL.out _ _ HB.out).mono ?_; rintro e wx ⟨rfl, rfl⟩
        rw [HIN.out]
        go_wp2_with fail
        exact ⟨⟨k + 1, hk12, by go_num, HB, XR, XU⟩, by simp [RowKit.intOf]; omega⟩
    · obtain rfl : k = 12 := by omega
      clear hk hk12
      go_wp2_with ((with_reducible show wpList _ _ _ _ _ _); first
        | (refine wpList_load_whole rfl 26 (.tmp 12) rfl gU rfl 26 (TV.mk5 nm syn wolf den L 12).cells _ XU.out Tryd.underlying26 rfl (size_temper _) ?_)
        | (refine wpList_store_whole rfl 26 (.tmp 10) (.tmp 34) rfl gR (TV.mk5 nm syn wolf den L 12).cells rfl rfl 26 TV0.cells XR.out rfl (size_temper _) (TV.cells_one _) ?_; rintro w27 zm zs zb; replace HB : Sl (Below w.heap.size w w27) := ⟨below_mv HB.out zm (by have := HB.out.size; have := ORD.out; omega) HB.out.size⟩; replace XU : Sl (Blk w27 gU 26 (TV.mk5 nm syn wolf den L 12).cells) := ⟨XU.out.mv zm (by have := XU.out.lt; have := ORD.out; omega)⟩; replace XR : Sl (Blk w27 gR 26 (TV.mk5 nm syn wolf den L 12).cells) := ⟨zb⟩; clear zm zs zb))
      refine bodyPost_ret (results_rowR rfl _ _ gR _ _ _ rfl XR.out Tryd.underlying26 rfl (size_temper _)) rfl ?_
      exact ⟨rfl, HB.out⟩
end Go.Proofs.YtmcoadmnkelkkaaDoor
