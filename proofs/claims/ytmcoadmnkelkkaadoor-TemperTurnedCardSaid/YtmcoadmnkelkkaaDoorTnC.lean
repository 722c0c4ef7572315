/- Turn of package temper and of its reference. (Printed by gentma.py.) The reference's standard temperaments. (Printed by gentmb.py.) Equality of temperaments; the law TemperTurns walks to true. (Printed by gentmc.py.) -/
import Derived.Test.YtmcoadmnkelkkaaDoorTemY
import Derived.ChangeKeysEq
namespace Go.Proofs.YtmcoadmnkelkkaaDoor
set_option linter.unusedSimpArgs false
open Go.RowKit
set_option linter.unusedVariables false

attribute [-simp] Tryd.isAgg26 Tryd.isAgg24 Tryd.isAgg23
/-- a temperament turned; its first parts -/
def TV.tu (t : TV) (b k : Nat) : TV := ⟨t.nm, t.syn, t.wolf, fun i => if (i + 5 * b) % 12 < k then t.num ((i + 5 * b) % 12) else t.num i, fun i => if (i + 5 * b) % 12 < k then t.den ((i + 5 * b) % 12) else t.den i⟩
/-- a temperament turned -/
def TV.turn (t : TV) (b : Nat) : TV := ⟨t.nm, t.syn, (t.wolf + 7 * (b : Int)) % 12, fun i => t.num ((i + 5 * b) % 12), fun i => t.den ((i + 5 * b) % 12)⟩
theorem TV.tu_zero (t : TV) (b : Nat) : t.cells = (t.tu b 0).cells :=
  TV.cells_ext rfl rfl rfl (fun i _ => by show t.num i = if (i + 5 * b) % 12 < 0 then t.num ((i + 5 * b) % 12) else t.num i; rw [if_neg (by omega)]) (fun i _ => by show t.den i = if (i + 5 * b) % 12 < 0 then t.den ((i + 5 * b) % 12) else t.den i; rw [if_neg (by omega)])
theorem TV.tu_succ (t : TV) {b k : Nat} (hk : k < 12) (hb : b < 12) : putA (t.tu b k).cells (3 + (k + 7 * b) % 12 * 2) (#[Value.int .i64 (t.num k), .int .i64 (t.den k)]).toList = (t.tu b (k + 1)).cells := by
  rw [TV.part_at _ _ _ (by omega)]
  refine TV.cells_ext rfl rfl rfl (fun i hi => ?_) (fun i hi => ?_)
  · show (if i = (k + 7 * b) % 12 then t.num k else if (i + 5 * b) % 12 < k then t.num ((i + 5 * b) % 12) else t.num i) = if (i + 5 * b) % 12 < k + 1 then t.num ((i + 5 * b) % 12) else t.num i
    by_cases h0 : i = (k + 7 * b) % 12
    · have e : (i + 5 * b) % 12 = k := by omega
      rw [if_pos h0, if_pos (show (i + 5 * b) % 12 < k + 1 by omega), e]
    · have e : (i + 5 * b) % 12 ≠ k := by omega
      rw [if_neg h0]
      by_cases h1 : (i + 5 * b) % 12 < k
      · rw [if_pos h1, if_pos (show (i + 5 * b) % 12 < k + 1 by omega)]
      · rw [if_neg h1, if_neg (show ¬ (i + 5 * b) % 12 < k + 1 by omega)]
  · show (if i = (k + 7 * b) % 12 then t.den k else if (i + 5 * b) % 12 < k then t.den ((i + 5 * b) % 12) else t.den i) = if (i + 5 * b) % 12 < k + 1 then t.den ((i + 5 * b) % 12) else t.den i
    by_cases h0 : i = (k + 7 * b) % 12
    · have e : (i + 5 * b) % 12 = k := by omega
      rw [if_pos h0, if_pos (show (i + 5 * b) % 12 < k + 1 by omega), e]
    · have e : (i + 5 * b) % 12 ≠ k := by omega
      rw [if_neg h0]
      by_cases h1 : (i + 5 * b) % 12 < k
      · rw [if_pos h1, if_pos (show (i + 5 * b) % 12 < k + 1 by omega)]
      · rw [if_neg h1, if_neg (show ¬ (i + 5 * b) % 12 < k + 1 by omega)]
theorem TV.wolf_at (t : TV) (z : Int) : t.cells.setIfInBounds 2 (.int .i64 z) = (TV.mk t.nm t.syn z t.num t.den).cells := by kernel_rfl
theorem TV.tu_end (t : TV) (b : Nat) : (t.tu b 12).cells.setIfInBounds 2 (.int .i64 ((t.wolf + 7 * (b : Int)) % 12)) = (t.turn b).cells := by
  rw [TV.wolf_at]
  exact TV.cells_ext rfl rfl rfl (fun i _ => by show (if (i + 5 * b) % 12 < 12 then _ else _) = t.num ((i + 5 * b) % 12); rw [if_pos (by omega)]) (fun i _ => by show (if (i + 5 * b) % 12 < 12 then _ else _) = t.den ((i + 5 * b) % 12); rw [if_pos (by omega)])
theorem TV.ext_0 (t : TV) : t.cells.extract (3 + 0 * 2) (3 + 0 * 2 + (#[Value.int .i64 (t.num 0), .int .i64 (t.den 0)]).size) = #[Value.int .i64 (t.num 0), .int .i64 (t.den 0)] := by kernel_rfl
theorem TV.ext_1 (t : TV) : t.cells.extract (3 + 1 * 2) (3 + 1 * 2 + (#[Value.int .i64 (t.num 1), .int .i64 (t.den 1)]).size) = #[Value.int .i64 (t.num 1), .int .i64 (t.den 1)] := by kernel_rfl
theorem TV.ext_2 (t : TV) : t.cells.extract (3 + 2 * 2) (3 + 2 * 2 + (#[Value.int .i64 (t.num 2), .int .i64 (t.den 2)]).size) = #[Value.int .i64 (t.num 2), .int .i64 (t.den 2)] := by kernel_rfl
theorem TV.ext_3 (t : TV) : t.cells.extract (3 + 3 * 2) (3 + 3 * 2 + (#[Value.int .i64 (t.num 3), .int .i64 (t.den 3)]).size) = #[Value.int .i64 (t.num 3), .int .i64 (t.den 3)] := by kernel_rfl
theorem TV.ext_4 (t : TV) : t.cells.extract (3 + 4 * 2) (3 + 4 * 2 + (#[Value.int .i64 (t.num 4), .int .i64 (t.den 4)]).size) = #[Value.int .i64 (t.num 4), .int .i64 (t.den 4)] := by kernel_rfl
theorem TV.ext_5 (t : TV) : t.cells.extract (3 + 5 * 2) (3 + 5 * 2 + (#[Value.int .i64 (t.num 5), .int .i64 (t.den 5)]).size) = #[Value.int .i64 (t.num 5), .int .i64 (t.den 5)] := by kernel_rfl
theorem TV.ext_6 (t : TV) : t.cells.extract (3 + 6 * 2) (3 + 6 * 2 + (#[Value.int .i64 (t.num 6), .int .i64 (t.den 6)]).size) = #[Value.int .i64 (t.num 6), .int .i64 (t.den 6)] := by kernel_rfl
theorem TV.ext_7 (t : TV) : t.cells.extract (3 + 7 * 2) (3 + 7 * 2 + (#[Value.int .i64 (t.num 7), .int .i64 (t.den 7)]).size) = #[Value.int .i64 (t.num 7), .int .i64 (t.den 7)] := by kernel_rfl
theorem TV.ext_8 (t : TV) : t.cells.extract (3 + 8 * 2) (3 + 8 * 2 + (#[Value.int .i64 (t.num 8), .int .i64 (t.den 8)]).size) = #[Value.int .i64 (t.num 8), .int .i64 (t.den 8)] := by kernel_rfl
theorem TV.ext_9 (t : TV) : t.cells.extract (3 + 9 * 2) (3 + 9 * 2 + (#[Value.int .i64 (t.num 9), .int .i64 (t.den 9)]).size) = #[Value.int .i64 (t.num 9), .int .i64 (t.den 9)] := by kernel_rfl
theorem TV.ext_10 (t : TV) : t.cells.extract (3 + 10 * 2) (3 + 10 * 2 + (#[Value.int .i64 (t.num 10), .int .i64 (t.den 10)]).size) = #[Value.int .i64 (t.num 10), .int .i64 (t.den 10)] := by kernel_rfl
theorem TV.ext_11 (t : TV) : t.cells.extract (3 + 11 * 2) (3 + 11 * 2 + (#[Value.int .i64 (t.num 11), .int .i64 (t.den 11)]).size) = #[Value.int .i64 (t.num 11), .int .i64 (t.den 11)] := by kernel_rfl
theorem TV.ext_at (t : TV) {k : Nat} (hk : k < 12) : t.cells.extract (3 + k * 2) (3 + k * 2 + (#[Value.int .i64 (t.num k), .int .i64 (t.den k)]).size) = #[Value.int .i64 (t.num k), .int .i64 (t.den k)] := by
  have h : k = 0 ∨ k = 1 ∨ k = 2 ∨ k = 3 ∨ k = 4 ∨ k = 5 ∨ k = 6 ∨ k = 7 ∨ k = 8 ∨ k = 9 ∨ k = 10 ∨ k = 11 := by omega
  rcases h with rfl | rfl | rfl | rfl | rfl | rfl | rfl | rfl | rfl | rfl | rfl | rfl
  · exact t.ext_0
  · exact t.ext_1
  · exact t.ext_2
  · exact t.ext_3
  · exact t.ext_4
  · exact t.ext_5
  · exact t.ext_6
  · exact t.ext_7
  · exact t.ext_8
  · exact t.ext_9
  · exact t.ext_10
  · exact t.ext_11
/-- what Turn returns -/
noncomputable def TV.trn (t : TV) (z : Int) : TV × Int := if t.chk nameS = 0 then (if clsB z = true then (t.turn z.toNat, 0) else (TV0, 2)) else (TV0, t.chk nameS)
set_option maxHeartbeats 6400000 in
set_option maxRecDepth 100000 in
theorem turn_any (t : TV) (hs : t.nm.size ≤ maxLen) (z : Int) (w : World) : Calls Tryd.prog 13 #[.agg t.cells, .int .i64 z] w fun e w' => e = .returned (.tuple #[.agg (t.trn z).1.cells, .int .i64 (t.trn z).2]) ∧ Below w.heap.size w w' := by
  have HB : Sl (Below w.heap.size w w) := ⟨Below.refl _ _⟩
  have HCK : Sl (∀ W : World, Calls Tryd.prog 7 #[.agg t.cells] W fun e w' => e = .returned (.int .i64 (t.chk nameS)) ∧ Below W.heap.size W w') := ⟨fun W => tcheck_any t W hs⟩
  clear hs
  obtain ⟨c, hc⟩ : ∃ c, t.chk nameS = c := ⟨_, rfl⟩
  rw [hc] at HCK
  have HC : Sl _ := ⟨hc⟩
  clear hc
  obtain ⟨sr, hsr⟩ : ∃ s, t.trn z = s := ⟨_, rfl⟩
  rw [hsr]
  have HSR : Sl _ := ⟨hsr⟩
  clear hsr
  have HCA : Sl (∀ W : World, Calls Tryd.prog 24 #[.int .i64 z] W fun e w' => e = .returned (.bool (clsB z)) ∧ W = w') := ⟨fun W => class_any z W⟩
  obtain ⟨ca, hca⟩ : ∃ x, clsB z = x := ⟨_, rfl⟩
  rw [hca] at HCA
  have HAB : Sl _ := ⟨hca⟩
  clear hca
  go_enter Tryd.func13, Tryd.ntmps13
  go_wp2_with ((with_reducible show wpList _ _ _ _ _ _); first
    | (refine wpList_box_new 2 rfl rfl 26 (.tmp 0) rfl t.cells rfl (box_temper t) ?_; rintro w1 gT zg zm zs zb; have ORD : Sl (w.heap.size ≤ gT) := ⟨by have := HB.out.size; omega⟩; replace HB : Sl (Below w.heap.size w w1) := ⟨below_mv HB.out zm (by have := HB.out.size; have := ORD.out; omega) HB.out.size⟩; have XT : Sl (Blk w1 gT 26 t.cells) := ⟨zb⟩; clear zg zm zs zb)
    | (refine wpList_alloc_new 4 rfl rfl 26 rfl TV0.cells alloc_temper ?_; rintro w2 gR zg zm zs zb; replace ORD : Sl (w.heap.size ≤ gT ∧ gT < gR) := ⟨by have := HB.out.size; have := ORD.out; have := XT.out.lt; omega⟩; replace HB : Sl (Below w.heap.size w w2) := ⟨below_mv HB.out zm (by have := HB.out.size; have := ORD.out; omega) HB.out.size⟩; replace XT : Sl (Blk w2 gT 26 t.cells) := ⟨XT.out.mv zm (by have := XT.out.lt; have := ORD.out; omega)⟩; have XR : Sl (Blk w2 gR 26 TV0.cells) := ⟨zb⟩; clear zg zm zs zb)
    | (refine wpList_load_whole rfl 26 (.tmp 2) rfl gT rfl 26 t.cells _ XT.out Tryd.underlying26 rfl (size_temper t) ?_))
  refine (HCK.out _).mono ?_; rintro e w3 ⟨rfl, hb⟩
  replace HB : Sl (Below w.heap.size w w3) := ⟨HB.out.trans (hb.mono HB.out.size)⟩
  replace XT : Sl (Blk w3 gT 26 t.cells) := ⟨XT.out.below hb XT.out.lt⟩
  replace XR : Sl (Blk w3 gR 26 TV0.cells) := ⟨XR.out.below hb XR.out.lt⟩
  clear hb
  by_cases h0 : c = 0
  · subst h0
    cases ca
    · have HV : Sl (sr = (TV0, 2)) := ⟨by rw [← HSR.out]; unfold TV.trn; rw [if_pos HC.out, HAB.out, if_neg (by simp)]⟩
      go_wp2_with fail
      refine (HCA.out _).mono ?_; rintro e wx ⟨rfl, rfl⟩
      go_wp2_with ((with_reducible show wpList _ _ _ _ _ _); first
        | (refine wpList_store_whole rfl 26 (.tmp 4) (.tmp 19) rfl gR TV0.cells rfl rfl 26 TV0.cells XR.out rfl (size_temper _) (TV.cells_one _) ?_; rintro w4 zm zs zb; replace HB : Sl (Below w.heap.size w w4) := ⟨below_mv HB.out zm (by have := HB.out.size; have := ORD.out; omega) HB.out.size⟩; replace XT : Sl (Blk w4 gT 26 t.cells) := ⟨XT.out.mv zm (by have := XT.out.lt; have := ORD.out; omega)⟩; replace XR : Sl (Blk w4 gR 26 TV0.cells) := ⟨zb⟩; clear zm zs zb))
      refine bodyPost_ret (results_rowR rfl _ _ gR _ _ _ rfl XR.out Tryd.underlying26 rfl (size_temper _)) rfl ?_
      exact ⟨by rw [HV.out]; rfl, HB.out⟩
    · have h1 := clsB_true.1 HAB.out
      obtain ⟨b, rfl⟩ : ∃ x : Nat, z = (x : Int) := ⟨z.toNat, by omega⟩
      have hb12 : b < 12 := by omega
      have hb0 : (0 : Int) ≤ (b : Int) := by omega
      have hb1 : (b : Int) < 12 := by omega
      have HV : Sl (sr = (t.turn b, 0)) := ⟨by rw [← HSR.out]; unfold TV.trn; rw [if_pos HC.out, HAB.out, if_pos rfl]; rfl⟩
      have HIX : Sl _ := ⟨fun (W : World) (k : Nat) (hk : k < 12) => idxT t W hk⟩
      obtain ⟨W0, hW⟩ : ∃ W : Nat, t.wolf = (W : Int) := ⟨t.wolf.toNat, by have := (TV.chk_ok HC.out).1; omega⟩
      have hW12 : W0 < 12 := by have := (TV.chk_ok HC.out).1; omega
      have HWT : Sl _ := ⟨hW⟩
      clear h1 hW
      go_wp2_with fail
      refine (HCA.out _).mono ?_; rintro e wx ⟨rfl, rfl⟩
      go_wp2_with ((with_reducible show wpList _ _ _ _ _ _); first
        | (refine wpList_load_whole rfl 26 (.tmp 2) rfl gT rfl 26 t.cells _ XT.out Tryd.underlying26 rfl (size_temper t) ?_)
        | (refine wpList_alloc_new 7 rfl rfl 26 rfl TV0.cells alloc_temper ?_; rintro w15 gU zg zm zs zb; replace ORD : Sl (w.heap.size ≤ gT ∧ gT < gR ∧ gR < gU) := ⟨by have := HB.out.size; have := ORD.out; have := XT.out.lt; have := XR.out.lt; omega⟩; replace HB : Sl (Below w.heap.size w w15) := ⟨below_mv HB.out zm (by have := HB.out.size; have := ORD.out; omega) HB.out.size⟩; replace XT : Sl (Blk w15 gT 26 t.cells) := ⟨XT.out.mv zm (by have := XT.out.lt; have := ORD.out; omega)⟩; replace XR : Sl (Blk w15 gR 26 TV0.cells) := ⟨XR.out.mv zm (by have := XR.out.lt; have := ORD.out; omega)⟩; have XU : Sl (Blk w15 gU 26 TV0.cells) := ⟨zb⟩; clear zg zm zs zb)
        | (refine wpList_store_whole rfl 26 (.tmp 7) (.tmp 20) rfl gU t.cells rfl rfl 26 TV0.cells XU.out rfl (size_temper _) (TV.cells_one _) ?_; rintro w16 zm zs zb; replace HB : Sl (Below w.heap.size w w16) := ⟨below_mv HB.out zm (by have := HB.out.size; have := ORD.out; omega) HB.out.size⟩; replace XT : Sl (Blk w16 gT 26 t.cells) := ⟨XT.out.mv zm (by have := XT.out.lt; have := ORD.out; omega)⟩; replace XR : Sl (Blk w16 gR 26 TV0.cells) := ⟨XR.out.mv zm (by have := XR.out.lt; have := ORD.out; omega)⟩; replace XU : Sl (Blk w16 gU 26 t.cells) := ⟨zb⟩; clear zm zs zb)
        | (refine wpList_load_part rfl 24 (.tmp 21) rfl gT (3) rfl 26 t.cells t.parts _ XT.out (parts_ext t) Tryd.underlying24 rfl (size_parts2 t) ?_))
      replace XU : Sl (Blk w16 gU 26 (t.tu b 0).cells) := ⟨by rw [← TV.tu_zero]; exact XU.out⟩
      go_loopw [23] (fun si wr => ∃ k : Nat, k ≤ 12 ∧ si = .int .i64 k ∧ Sl (Below w.heap.size w wr) ∧ Sl (Blk wr gT 26 t.cells) ∧ Sl (Blk wr gR 26 TV0.cells) ∧ Sl (Blk wr gU 26 (t.tu b k).cells)) (fun si _ => 12 - (RowKit.intOf si).toNat)
      case atStart => exact ⟨0, by decide, rfl, HB, XT, XR, XU⟩
      case round =>
        clear HB XT XR XU
        obtain ⟨k, hk, rfl, HB, XT, XR, XU⟩ := hrel
        by_cases hk12 : k < 12
        · have hix := fun W : World => HIX.out W k hk12
          obtain ⟨n, hn⟩ : ∃ n, t.num k = n := ⟨_, rfl⟩
          obtain ⟨d, hd⟩ : ∃ d, t.den k = d := ⟨_, rfl⟩
          have hsu := t.tu_succ hk12 hb12
          have hex := t.ext_at hk12
          obtain ⟨q, hq⟩ : ∃ q, (k + 7 * b) % 12 = q := ⟨_, rfl⟩
          rw [hn, hd] at hix hsu hex
          rw [hq] at hsu
          have HSU : Sl _ := ⟨And.intro hsu hex⟩
          have hq12 : q < 12 := by omega
          have hqi : ((k : Int) + 7 * (b : Int)) % 12 = (q : Int) := by omega
          have hq0 : (0 : Int) ≤ (q : Int) := by omega
          have hq1 : (q : Int) < 12 := by omega
          have hk0 : (0 : Int) ≤ (k : Int) := by omega
          have hk1 : (k : Int) < 12 := by omega
          clear hn hd hsu hex hq
          go_wp2_with ((with_reducible show wpList _ _ _ _ _ _); first
            | (refine wpList_alloc_new 9 rfl rfl 23 rfl #[.int .i64 0, .int .i64 0] alloc_part ?_; rintro w17 gP zg zm zs zb; replace ORD : Sl (w.heap.size ≤ gT ∧ gT < gR ∧ gR < gU ∧ gU < gP) := ⟨by have := HB.out.size; have := ORD.out; have := XT.out.lt; have := XR.out.lt; have := XU.out.lt; omega⟩; replace HB : Sl (Below w.heap.size w w17) := ⟨below_mv HB.out zm (by have := HB.out.size; have := ORD.out; omega) HB.out.size⟩; replace XT : Sl (Blk w17 gT 26 t.cells) := ⟨XT.out.mv zm (by have := XT.out.lt; have := ORD.out; omega)⟩; replace XR : Sl (Blk w17 gR 26 TV0.cells) := ⟨XR.out.mv zm (by have := XR.out.lt; have := ORD.out; omega)⟩; replace XU : Sl (Blk w17 gU 26 (t.tu b k).cells) := ⟨XU.out.mv zm (by have := XU.out.lt; have := ORD.out; omega)⟩; have XP : Sl (Blk w17 gP 23 #[.int .i64 0, .int .i64 0]) := ⟨zb⟩; clear zg zm zs zb)
            | (refine wpList_store_whole rfl 23 (.tmp 9) (.tmp 26) rfl gP #[.int .i64 n, .int .i64 d] rfl rfl 23 #[.int .i64 0, .int .i64 0] XP.out rfl (size_part n d) (part_one n d) ?_; rintro w18 zm zs zb; replace HB : Sl (Below w.heap.size w w18) := ⟨below_mv HB.out zm (by have := HB.out.size; have := ORD.out; omega) HB.out.size⟩; replace XT : Sl (Blk w18 gT 26 t.cells) := ⟨XT.out.mv zm (by have := XT.out.lt; have := ORD.out; omega)⟩; replace XR : Sl (Blk w18 gR 26 TV0.cells) := ⟨XR.out.mv zm (by have := XR.out.lt; have := ORD.out; omega)⟩; replace XU : Sl (Blk w18 gU 26 (t.tu b k).cells) := ⟨XU.out.mv zm (by have := XU.out.lt; have := ORD.out; omega)⟩; replace XP : Sl (Blk w18 gP 23 #[.int .i64 n, .int .i64 d]) := ⟨zb⟩; clear zm zs zb)
            | (refine wpList_load_whole rfl 23 (.tmp 9) rfl gP rfl 23 #[.int .i64 n, .int .i64 d] _ XP.out Tryd.underlying23 rfl (size_part n d) ?_)
            | (refine wpList_store_part rfl 23 (.tmp 34) (.tmp 32) rfl gU (3 + q * 2) #[.int .i64 n, .int .i64 d] rfl rfl 26 (t.tu b k).cells (t.tu b (k + 1)).cells XU.out (by rw [TV.cells_size]; show 3 + q * 2 + 2 ≤ 27; omega) HSU.out.1 (size_part n d) (part_one n d) ?_; rintro w19 zm zs zb; replace HB : Sl (Below w.heap.size w w19) := ⟨below_mv HB.out zm (by have := HB.out.size; have := ORD.out; omega) HB.out.size⟩; replace XT : Sl (Blk w19 gT 26 t.cells) := ⟨XT.out.mv zm (by have := XT.out.lt; have := ORD.out; omega)⟩; replace XR : Sl (Blk w19 gR 26 TV0.cells) := ⟨XR.out.mv zm (by have := XR.out.lt; have := ORD.out; omega)⟩; replace XP : Sl (Blk w19 gP 23 #[.int .i64 n, .int .i64 d]) := ⟨XP.out.mv zm (by have := XP.out.lt; have := ORD.out; omega)⟩; replace XU : Sl (Blk w19 gU 26 (t.tu b (k + 1)).cells) := ⟨zb⟩; clear zm zs zb))
          exact ⟨⟨k + 1, hk12, by go_num, HB, XT, XR, XU⟩, by simp [RowKit.intOf]; omega⟩
        · obtain rfl : k = 12 := by omega
          clear hk hk12
          have HTE : Sl ((t.tu b 12).cells.setIfInBounds 2 (.int .i64 (((W0 : Int) + 7 * (b : Int)) % 12)) = (t.turn b).cells) := ⟨by have := t.tu_end b; rw [HWT.out] at this; exact this⟩
          have cw : wr.cell? ⟨gT, 2, none⟩ = some (.int .i64 (W0 : Int)) := by rw [XT.out.cell 2, t.cell2, HWT.out]
          have hw0 : (0 : Int) ≤ (W0 : Int) := by omega
          have hw1 : (W0 : Int) < 12 := by omega
          go_wp2_with ((with_reducible show wpList _ _ _ _ _ _); first
            | (refine wpList_store_int rfl 3 (.tmp 42) _ rfl gU (2) .i64 (((W0 : Int) + 7 * (b : Int)) % 12) rfl rfl 26 (t.tu b 12).cells (t.turn b).cells XU.out (by rw [TV.cells_size]; decide) HTE.out size_int ?_; rintro w30 zm zs zb; replace HB : Sl (Below w.heap.size w w30) := ⟨below_mv HB.out zm (by have := HB.out.size; have := ORD.out; omega) HB.out.size⟩; replace XT : Sl (Blk w30 gT 26 t.cells) := ⟨XT.out.mv zm (by have := XT.out.lt; have := ORD.out; omega)⟩; replace XR : Sl (Blk w30 gR 26 TV0.cells) := ⟨XR.out.mv zm (by have := XR.out.lt; have := ORD.out; omega)⟩; replace XU : Sl (Blk w30 gU 26 (t.turn b).cells) := ⟨zb⟩; clear zm zs zb)
            | (refine wpList_load_whole rfl 26 (.tmp 7) rfl gU rfl 26 (t.turn b).cells _ XU.out Tryd.underlying26 rfl (size_temper _) ?_)
            | (refine wpList_store_whole rfl 26 (.tmp 4) (.tmp 43) rfl gR (t.turn b).cells rfl rfl 26 TV0.cells XR.out rfl (size_temper _) (TV.cells_one _) ?_; rintro w31 zm zs zb; replace HB : Sl (Below w.heap.size w w31) := ⟨below_mv HB.out zm (by have := HB.out.size; have := ORD.out; omega) HB.out.size⟩; replace XT : Sl (Blk w31 gT 26 t.cells) := ⟨XT.out.mv zm (by have := XT.out.lt; have := ORD.out; omega)⟩; replace XU : Sl (Blk w31 gU 26 (t.turn b).cells) := ⟨XU.out.mv zm (by have := XU.out.lt; have := ORD.out; omega)⟩; replace XR : Sl (Blk w31 gR 26 (t.turn b).cells) := ⟨zb⟩; clear zm zs zb))
          refine bodyPost_ret (results_rowR rfl _ _ gR _ _ _ rfl XR.out Tryd.underlying26 rfl (size_temper _)) rfl ?_
          exact ⟨by rw [HV.out]; rfl, HB.out⟩
  · have hz : ((c : Int) != 0) = true := by rw [bne_iff_ne]; exact h0
    have HV : Sl (sr = (TV0, c)) := ⟨by rw [← HSR.out]; unfold TV.trn; rw [if_neg (by rw [HC.out]; exact h0), HC.out]⟩
    clear h0
    go_wp2_with ((with_reducible show wpList _ _ _ _ _ _); first
      | (refine wpList_store_whole rfl 26 (.tmp 4) (.tmp 14) rfl gR TV0.cells rfl rfl 26 TV0.cells XR.out rfl (size_temper _) (TV.cells_one _) ?_; rintro w42 zm zs zb; replace HB : Sl (Below w.heap.size w w42) := ⟨below_mv HB.out zm (by have := HB.out.size; have := ORD.out; omega) HB.out.size⟩; replace XT : Sl (Blk w42 gT 26 t.cells) := ⟨XT.out.mv zm (by have := XT.out.lt; have := ORD.out; omega)⟩; replace XR : Sl (Blk w42 gR 26 TV0.cells) := ⟨zb⟩; clear zm zs zb))
    refine bodyPost_ret (results_rowR rfl _ _ gR _ _ _ rfl XR.out Tryd.underlying26 rfl (size_temper _)) rfl ?_
    exact ⟨by rw [HV.out]; rfl, HB.out⟩
set_option maxHeartbeats 6400000 in
set_option maxRecDepth 100000 in
theorem r5turn_any (t : TV) (hs : t.nm.size ≤ maxLen) (z : Int) (w : World) : Calls Tryd.prog 14 #[.agg t.cells, .int .i64 z] w fun e w' => e = .returned (.tuple #[.agg (t.trn z).1.cells, .int .i64 (t.trn z).2]) ∧ Below w.heap.size w w' := by
  have HB : Sl (Below w.heap.size w w) := ⟨Below.refl _ _⟩
  have HCK : Sl (∀ W : World, Calls Tryd.prog 8 #[.agg t.cells] W fun e w' => e = .returned (.int .i64 (t.chk nameS)) ∧ Below W.heap.size W w') := ⟨fun W => r5check_any t W hs⟩
  clear hs
  obtain ⟨c, hc⟩ : ∃ c, t.chk nameS = c := ⟨_, rfl⟩
  rw [hc] at HCK
  have HC : Sl _ := ⟨hc⟩
  clear hc
  obtain ⟨sr, hsr⟩ : ∃ s, t.trn z = s := ⟨_, rfl⟩
  rw [hsr]
  have HSR : Sl _ := ⟨hsr⟩
  clear hsr
  have HCA : Sl (∀ W : World, Calls Tryd.prog 24 #[.int .i64 z] W fun e w' => e = .returned (.bool (clsB z)) ∧ W = w') := ⟨fun W => class_any z W⟩
  obtain ⟨ca, hca⟩ : ∃ x, clsB z = x := ⟨_, rfl⟩
  rw [hca] at HCA
  have HAB : Sl _ := ⟨hca⟩
  clear hca
  go_enter Tryd.func14, Tryd.ntmps14
  clear HCA
  go_wp2_with ((with_reducible show wpList _ _ _ _ _ _); first
    | (refine wpList_box_new 2 rfl rfl 26 (.tmp 0) rfl t.cells rfl (box_temper t) ?_; rintro w1 gT zg zm zs zb; have ORD : Sl (w.heap.size ≤ gT) := ⟨by have := HB.out.size; omega⟩; replace HB : Sl (Below w.heap.size w w1) := ⟨below_mv HB.out zm (by have := HB.out.size; have := ORD.out; omega) HB.out.size⟩; have XT : Sl (Blk w1 gT 26 t.cells) := ⟨zb⟩; clear zg zm zs zb)
    | (refine wpList_alloc_new 4 rfl rfl 26 rfl TV0.cells alloc_temper ?_; rintro w2 gR zg zm zs zb; replace ORD : Sl (w.heap.size ≤ gT ∧ gT < gR) := ⟨by have := HB.out.size; have := ORD.out; have := XT.out.lt; omega⟩; replace HB : Sl (Below w.heap.size w w2) := ⟨below_mv HB.out zm (by have := HB.out.size; have := ORD.out; omega) HB.out.size⟩; replace XT : Sl (Blk w2 gT 26 t.cells) := ⟨XT.out.mv zm (by have := XT.out.lt; have := ORD.out; omega)⟩; have XR : Sl (Blk w2 gR 26 TV0.cells) := ⟨zb⟩; clear zg zm zs zb)
    | (refine wpList_load_whole rfl 26 (.tmp 2) rfl gT rfl 26 t.cells _ XT.out Tryd.underlying26 rfl (size_temper t) ?_))
  refine (HCK.out _).mono ?_; rintro e w3 ⟨rfl, hb⟩
  replace HB : Sl (Below w.heap.size w w3) := ⟨HB.out.trans (hb.mono HB.out.size)⟩
  replace XT : Sl (Blk w3 gT 26 t.cells) := ⟨XT.out.below hb XT.out.lt⟩
  replace XR : Sl (Blk w3 gR 26 TV0.cells) := ⟨XR.out.below hb XR.out.lt⟩
  clear hb
  by_cases h0 : c = 0
  · subst h0
    cases ca
    · have HV : Sl (sr = (TV0, 2)) := ⟨by rw [← HSR.out]; unfold TV.trn; rw [if_pos HC.out, HAB.out, if_neg (by simp)]⟩
      have hcl : ¬ (0 ≤ z ∧ z < 12) := fun h => by have := clsB_true.2 h; rw [HAB.out] at this; cases this
      by_cases h1 : z < 0
      · clear hcl
        go_wp2_with ((with_reducible show wpList _ _ _ _ _ _); first
          | (refine wpList_store_whole rfl 26 (.tmp 4) (.tmp 21) rfl gR TV0.cells rfl rfl 26 TV0.cells XR.out rfl (size_temper _) (TV.cells_one _) ?_; rintro w4 zm zs zb; replace HB : Sl (Below w.heap.size w w4) := ⟨below_mv HB.out zm (by have := HB.out.size; have := ORD.out; omega) HB.out.size⟩; replace XT : Sl (Blk w4 gT 26 t.cells) := ⟨XT.out.mv zm (by have := XT.out.lt; have := ORD.out; omega)⟩; replace XR : Sl (Blk w4 gR 26 TV0.cells) := ⟨zb⟩; clear zm zs zb))
        refine bodyPost_ret (results_rowR rfl _ _ gR _ _ _ rfl XR.out Tryd.underlying26 rfl (size_temper _)) rfl ?_
        exact ⟨by rw [HV.out]; rfl, HB.out⟩
      · have h2 : 11 < z := by omega
        clear hcl
        go_wp2_with ((with_reducible show wpList _ _ _ _ _ _); first
          | (refine wpList_store_whole rfl 26 (.tmp 4) (.tmp 21) rfl gR TV0.cells rfl rfl 26 TV0.cells XR.out rfl (size_temper _) (TV.cells_one _) ?_; rintro w15 zm zs zb; replace HB : Sl (Below w.heap.size w w15) := ⟨below_mv HB.out zm (by have := HB.out.size; have := ORD.out; omega) HB.out.size⟩; replace XT : Sl (Blk w15 gT 26 t.cells) := ⟨XT.out.mv zm (by have := XT.out.lt; have := ORD.out; omega)⟩; replace XR : Sl (Blk w15 gR 26 TV0.cells) := ⟨zb⟩; clear zm zs zb))
        refine bodyPost_ret (results_rowR rfl _ _ gR _ _ _ rfl XR.out Tryd.underlying26 rfl (size_temper _)) rfl ?_
        exact ⟨by rw [HV.out]; rfl, HB.out⟩
    · have h1 := clsB_true.1 HAB.out
      obtain ⟨b, rfl⟩ : ∃ x : Nat, z = (x : Int) := ⟨z.toNat, by omega⟩
      have hb12 : b < 12 := by omega
      have hb0 : (0 : Int) ≤ (b : Int) := by omega
      have hb1 : (b : Int) < 12 := by omega
      have HV : Sl (sr = (t.turn b, 0)) := ⟨by rw [← HSR.out]; unfold TV.trn; rw [if_pos HC.out, HAB.out, if_pos rfl]; rfl⟩
      have HIX : Sl _ := ⟨fun (W : World) (k : Nat) (hk : k < 12) => idxT t W hk⟩
      obtain ⟨W0, hW⟩ : ∃ W : Nat, t.wolf = (W : Int) := ⟨t.wolf.toNat, by have := (TV.chk_ok HC.out).1; omega⟩
      have hW12 : W0 < 12 := by have := (TV.chk_ok HC.out).1; omega
      have HWT : Sl _ := ⟨hW⟩
      clear h1 hW
      have d1 : decide ((b : Int) < 0) = false := by rw [decide_eq_false_iff_not]; omega
      have d2 : decide ((11 : Int) < (b : Int)) = false := by rw [decide_eq_false_iff_not]; omega
      go_wp2_with ((with_reducible show wpList _ _ _ _ _ _); first
        | (refine wpList_load_whole rfl 26 (.tmp 2) rfl gT rfl 26 t.cells _ XT.out Tryd.underlying26 rfl (size_temper t) ?_)
        | (refine wpList_alloc_new 7 rfl rfl 26 rfl TV0.cells alloc_temper ?_; rintro w26 gU zg zm zs zb; replace ORD : Sl (w.heap.size ≤ gT ∧ gT < gR ∧ gR < gU) := ⟨by have := HB.out.size; have := ORD.out; have := XT.out.lt; have := XR.out.lt; omega⟩; replace HB : Sl (Below w.heap.size w w26) := ⟨below_mv HB.out zm (by have := HB.out.size; have := ORD.out; omega) HB.out.size⟩; replace XT : Sl (Blk w26 gT 26 t.cells) := ⟨XT.out.mv zm (by have := XT.out.lt; have := ORD.out; omega)⟩; replace XR : Sl (Blk w26 gR 26 TV0.cells) := ⟨XR.out.mv zm (by have := XR.out.lt; have := ORD.out; omega)⟩; have XU : Sl (Blk w26 gU 26 TV0.cells) := ⟨zb⟩; clear zg zm zs zb)
        | (refine wpList_store_whole rfl 26 (.tmp 7) (.tmp 22) rfl gU t.cells rfl rfl 26 TV0.cells XU.out rfl (size_temper _) (TV.cells_one _) ?_; rintro w27 zm zs zb; replace HB : Sl (Below w.heap.size w w27) := ⟨below_mv HB.out zm (by have := HB.out.size; have := ORD.out; omega) HB.out.size⟩; replace XT : Sl (Blk w27 gT 26 t.cells) := ⟨XT.out.mv zm (by have := XT.out.lt; have := ORD.out; omega)⟩; replace XR : Sl (Blk w27 gR 26 TV0.cells) := ⟨XR.out.mv zm (by have := XR.out.lt; have := ORD.out; omega)⟩; replace XU : Sl (Blk w27 gU 26 t.cells) := ⟨zb⟩; clear zm zs zb))
      clear d1 d2
      replace XU : Sl (Blk w27 gU 26 (t.tu b 0).cells) := ⟨by rw [← TV.tu_zero]; exact XU.out⟩
      go_loopw [8] (fun si wr => ∃ k : Nat, k ≤ 12 ∧ si = .int .i64 k ∧ Sl (Below w.heap.size w wr) ∧ Sl (Blk wr gT 26 t.cells) ∧ Sl (Blk wr gR 26 TV0.cells) ∧ Sl (Blk wr gU 26 (t.tu b k).cells)) (fun si _ => 12 - (RowKit.intOf si).toNat)
      case atStart => exact ⟨0, by decide, rfl, HB, XT, XR, XU⟩
      case round =>
        clear HB XT XR XU
        obtain ⟨k, hk, rfl, HB, XT, XR, XU⟩ := hrel
        by_cases hk12 : k < 12
        · have hix := fun W : World => HIX.out W k hk12
          obtain ⟨n, hn⟩ : ∃ n, t.num k = n := ⟨_, rfl⟩
          obtain ⟨d, hd⟩ : ∃ d, t.den k = d := ⟨_, rfl⟩
          have hsu := t.tu_succ hk12 hb12
          have hex := t.ext_at hk12
          obtain ⟨q, hq⟩ : ∃ q, (k + 7 * b) % 12 = q := ⟨_, rfl⟩
          rw [hn, hd] at hix hsu hex
          rw [hq] at hsu
          have HSU : Sl _ := ⟨And.intro hsu hex⟩
          have hq12 : q < 12 := by omega
          have hqi : ((k : Int) + 7 * (b : Int)) % 12 = (q : Int) := by omega
          have hq0 : (0 : Int) ≤ (q : Int) := by omega
          have hq1 : (q : Int) < 12 := by omega
          have hk0 : (0 : Int) ≤ (k : Int) := by omega
          have hk1 : (k : Int) < 12 := by omega
          clear hn hd hsu hex hq
          go_wp2_with ((with_reducible show wpList _ _ _ _ _ _); first
            | (refine wpList_load_part rfl 23 (.tmp 34) rfl gT ((3 + k * 2)) rfl 26 t.cells #[.int .i64 n, .int .i64 d] _ XT.out HSU.out.2 Tryd.underlying23 rfl (size_part n d) ?_)
            | (refine wpList_store_part rfl 23 (.tmp 37) (.tmp 35) rfl gU (3 + q * 2) #[.int .i64 n, .int .i64 d] rfl rfl 26 (t.tu b k).cells (t.tu b (k + 1)).cells XU.out (by rw [TV.cells_size]; show 3 + q * 2 + 2 ≤ 27; omega) HSU.out.1 (size_part n d) (part_one n d) ?_; rintro w28 zm zs zb; replace HB : Sl (Below w.heap.size w w28) := ⟨below_mv HB.out zm (by have := HB.out.size; have := ORD.out; omega) HB.out.size⟩; replace XT : Sl (Blk w28 gT 26 t.cells) := ⟨XT.out.mv zm (by have := XT.out.lt; have := ORD.out; omega)⟩; replace XR : Sl (Blk w28 gR 26 TV0.cells) := ⟨XR.out.mv zm (by have := XR.out.lt; have := ORD.out; omega)⟩; replace XU : Sl (Blk w28 gU 26 (t.tu b (k + 1)).cells) := ⟨zb⟩; clear zm zs zb))
          exact ⟨⟨k + 1, hk12, by go_num, HB, XT, XR, XU⟩, by simp [RowKit.intOf]; omega⟩
        · obtain rfl : k = 12 := by omega
          clear hk hk12
          have HTE : Sl ((t.tu b 12).cells.setIfInBounds 2 (.int .i64 (((W0 : Int) + 7 * (b : Int)) % 12)) = (t.turn b).cells) := ⟨by have := t.tu_end b; rw [HWT.out] at this; exact this⟩
          have cw : wr.cell? ⟨gT, 2, none⟩ = some (.int .i64 (W0 : Int)) := by rw [XT.out.cell 2, t.cell2, HWT.out]
          have hw0 : (0 : Int) ≤ (W0 : Int) := by omega
          have hw1 : (W0 : Int) < 12 := by omega
          go_wp2_with ((with_reducible show wpList _ _ _ _ _ _); first
            | (refine wpList_store_int rfl 3 (.tmp 44) _ rfl gU (2) .i64 (((W0 : Int) + 7 * (b : Int)) % 12) rfl rfl 26 (t.tu b 12).cells (t.turn b).cells XU.out (by rw [TV.cells_size]; decide) HTE.out size_int ?_; rintro w39 zm zs zb; replace HB : Sl (Below w.heap.size w w39) := ⟨below_mv HB.out zm (by have := HB.out.size; have := ORD.out; omega) HB.out.size⟩; replace XT : Sl (Blk w39 gT 26 t.cells) := ⟨XT.out.mv zm (by have := XT.out.lt; have := ORD.out; omega)⟩; replace XR : Sl (Blk w39 gR 26 TV0.cells) := ⟨XR.out.mv zm (by have := XR.out.lt; have := ORD.out; omega)⟩; replace XU : Sl (Blk w39 gU 26 (t.turn b).cells) := ⟨zb⟩; clear zm zs zb)
            | (refine wpList_load_whole rfl 26 (.tmp 7) rfl gU rfl 26 (t.turn b).cells _ XU.out Tryd.underlying26 rfl (size_temper _) ?_)
            | (refine wpList_store_whole rfl 26 (.tmp 4) (.tmp 45) rfl gR (t.turn b).cells rfl rfl 26 TV0.cells XR.out rfl (size_temper _) (TV.cells_one _) ?_; rintro w40 zm zs zb; replace HB : Sl (Below w.heap.size w w40) := ⟨below_mv HB.out zm (by have := HB.out.size; have := ORD.out; omega) HB.out.size⟩; replace XT : Sl (Blk w40 gT 26 t.cells) := ⟨XT.out.mv zm (by have := XT.out.lt; have := ORD.out; omega)⟩; replace XU : Sl (Blk w40 gU 26 (t.turn b).cells) := ⟨XU.out.mv zm (by have := XU.out.lt; have := ORD.out; omega)⟩; replace XR : Sl (Blk w40 gR 26 (t.turn b).cells) := ⟨zb⟩; clear zm zs zb))
          refine bodyPost_ret (results_rowR rfl _ _ gR _ _ _ rfl XR.out Tryd.underlying26 rfl (size_temper _)) rfl ?_
          exact ⟨by rw [HV.out]; rfl, HB.out⟩
  · have hz : ((c : Int) != 0) = true := by rw [bne_iff_ne]; exact h0
    have HV : Sl (sr = (TV0, c)) := ⟨by rw [← HSR.out]; unfold TV.trn; rw [if_neg (by rw [HC.out]; exact h0), HC.out]⟩
    clear h0
    go_wp2_with ((with_reducible show wpList _ _ _ _ _ _); first
      | (refine wpList_store_whole rfl 26 (.tmp 4) (.tmp 13) rfl gR TV0.cells rfl rfl 26 TV0.cells XR.out rfl (size_temper _) (TV.cells_one _) ?_; rintro w51 zm zs zb; replace HB : Sl (Below w.heap.size w w51) := ⟨below_mv HB.out zm (by have := HB.out.size; have := ORD.out; omega) HB.out.size⟩; replace XT : Sl (Blk w51 gT 26 t.cells) := ⟨XT.out.mv zm (by have := XT.out.lt; have := ORD.out; omega)⟩; replace XR : Sl (Blk w51 gR 26 TV0.cells) := ⟨zb⟩; clear zm zs zb))
    refine bodyPost_ret (results_rowR rfl _ _ gR _ _ _ rfl XR.out Tryd.underlying26 rfl (size_temper _)) rfl ?_
    exact ⟨by rw [HV.out]; rfl, HB.out⟩
end Go.Proofs.YtmcoadmnkelkkaaDoor
namespace Go.Proofs.YtmcoadmnkelkkaaDoor
set_option linter.unusedSimpArgs false
open Go.RowKit
set_option linter.unusedVariables false

attribute [-simp] Tryd.isAgg26 Tryd.isAgg24 Tryd.isAgg23
/-- the parts so far, without any -/
def TV.mA (nm : ByteArray) (syn : Bool) (wolf : Int) (k : Nat) : TV := ⟨nm, syn, wolf, fun _ => 0, fun i => if i < k then 1 else 0⟩
/-- the parts of the first fifths of a list -/
def TV.mB (nm : ByteArray) (syn : Bool) (wolf den : Int) (L : List Int) (j : Nat) : TV := ⟨nm, syn, wolf, fun i => if (L.take j).contains (i : Int) = true then 1 else 0, fun i => if (L.take j).contains (i : Int) = true then den else 1⟩
theorem TV.mA_zero (nm : ByteArray) (syn : Bool) (wolf : Int) : (TV.mk nm syn wolf (fun _ => 0) (fun _ => 0)).cells = (TV.mA nm syn wolf 0).cells :=
  TV.cells_ext rfl rfl rfl (fun i _ => rfl) (fun i _ => by show (0 : Int) = if i < 0 then 1 else 0; rw [if_neg (by omega)])
theorem TV.mA_succ {nm : ByteArray} {syn : Bool} {wolf : Int} {k : Nat} (hk : k < 12) : putA (TV.mA nm syn wolf k).cells (3 + k * 2) (#[Value.int .i64 0, .int .i64 1]).toList = (TV.mA nm syn wolf (k + 1)).cells := by
  rw [TV.part_at _ _ _ hk]
  refine TV.cells_ext rfl rfl rfl (fun i _ => ?_) (fun i _ => ?_)
  · show (if i = k then (0 : Int) else 0) = 0
    split <;> rfl
  · show (if i = k then (1 : Int) else if i < k then 1 else 0) = if i < k + 1 then 1 else 0
    by_cases h0 : i = k
    · rw [if_pos h0, if_pos (by omega)]
    · by_cases h1 : i < k
      · rw [if_neg h0, if_pos h1, if_pos (by omega)]
      · rw [if_neg h0, if_neg h1, if_neg (by omega)]
theorem TV.mB_zero (nm : ByteArray) (syn : Bool) (wolf den : Int) (L : List Int) : (TV.mA nm syn wolf 12).cells = (TV.mB nm syn wolf den L 0).cells :=
  TV.cells_ext rfl rfl rfl (fun i _ => by show (0 : Int) = if (L.take 0).contains (i : Int) = true then 1 else 0; rw [if_neg (by simp)]) (fun i hi => by show (if i < 12 then (1 : Int) else 0) = if (L.take 0).contains (i : Int) = true then den else 1; rw [if_pos hi, if_neg (by simp)])
theorem TV.mB_succ {nm : ByteArray} {syn : Bool} {wolf den : Int} {L : List Int} {j q : Nat} (hj : j < L.length) (hq : L[j] = (q : Int)) (hq12 : q < 12) : putA (TV.mB nm syn wolf den L j).cells (3 + q * 2) (#[Value.int .i64 1, .int .i64 den]).toList = (TV.mB nm syn wolf den L (j + 1)).cells := by
  rw [TV.part_at _ _ _ hq12]
  have e : ∀ i : Nat, ((L.take (j + 1)).contains (i : Int) = true) ↔ (i = q ∨ (L.take j).contains (i : Int) = true) := fun i => by
    rw [List.take_succ_eq_append_getElem hj, hq]
    simp only [List.contains_iff_mem, List.mem_append, List.mem_singleton]
    constructor
    · rintro (h | h)
      · exact .inr h
      · exact .inl (by omega)
    · rintro (h | h)
      · exact .inr (by omega)
      · exact .inl h
  refine TV.cells_ext rfl rfl rfl (fun i _ => ?_) (fun i _ => ?_)
  · show (if i = q then (1 : Int) else if (L.take j).contains (i : Int) = true then 1 else 0) = if (L.take (j + 1)).contains (i : Int) = true then 1 else 0
    by_cases h0 : i = q
    · rw [if_pos h0, if_pos ((e i).2 (.inl h0))]
    · by_cases h1 : (L.take j).contains (i : Int) = true
      · rw [if_neg h0, if_pos h1, if_pos ((e i).2 (.inr h1))]
      · rw [if_neg h0, if_neg h1, if_neg (fun h => ((e i).1 h).elim h0 h1)]
  · show (if i = q then den else if (L.take j).contains (i : Int) = true then den else 1) = if (L.take (j + 1)).contains (i : Int) = true then den else 1
    by_cases h0 : i = q
    · rw [if_pos h0, if_pos ((e i).2 (.inl h0))]
    · by_cases h1 : (L.take j).contains (i : Int) = true
      · rw [if_neg h0, if_pos h1, if_pos ((e i).2 (.inr h1))]
      · rw [if_neg h0, if_neg h1, if_neg (fun h => ((e i).1 h).elim h0 h1)]
theorem TV.mB_end (nm : ByteArray) (syn : Bool) (wolf den : Int) (L : List Int) : (TV.mB nm syn wolf den L L.length).cells = (TV.mk5 nm syn wolf den L 12).cells :=
  TV.cells_ext rfl rfl rfl (fun i hi => by
    show (if (L.take L.length).contains (i : Int) = true then (1 : Int) else 0) = if i < 12 ∧ L.contains (i : Int) = true then 1 else 0
    rw [List.take_length]
    by_cases h : L.contains (i : Int) = true
    · rw [if_pos h, if_pos ⟨hi, h⟩]
    · rw [if_neg h, if_neg (fun h2 => h h2.2)]) (fun i hi => by
    show (if (L.take L.length).contains (i : Int) = true then den else 1) = if i < 12 then (if L.contains (i : Int) = true then den else 1) else 0
    rw [List.take_length, if_pos hi])
set_option maxHeartbeats 6400000 in
set_option maxRecDepth 100000 in
theorem made5_any (nm : ByteArray) (syn : Bool) (wolf den : Int) (L : List Int) (A : Option Addr) (n : Nat) (w : World) (hn : n = L.length) (hn2 : n ≤ 1000) (hr : ∀ x ∈ L, 0 ≤ x ∧ x < 12)
    (HA : Sl (∀ j, (hj : j < L.length) → ∃ g, A = some ⟨g, 0, none⟩ ∧ ∀ W, Below w.heap.size w W → W.cell? ⟨g, j, none⟩ = some (.int .i64 L[j]))) :
    Calls Tryd.prog 30 #[.string nm, .bool syn, .int .i64 wolf, .int .i64 den, .slice A n n] w fun e w' => e = .returned (.agg (TV.mk5 nm syn wolf den L 12).cells) ∧ Below w.heap.size w w' := by
  have HB : Sl (Below w.heap.size w w) := ⟨Below.refl _ _⟩
  have HN : Sl _ := ⟨hn⟩
  have HR : Sl _ := ⟨hr⟩
  clear hn hr
  go_enter Tryd.func30, Tryd.ntmps30
  go_wp2_with ((with_reducible show wpList _ _ _ _ _ _); first
    | (refine wpList_alloc_new 10 rfl rfl 26 rfl TV0.cells alloc_temper ?_; rintro w1 gR zg zm zs zb; have ORD : Sl (w.heap.size ≤ gR) := ⟨by have := HB.out.size; omega⟩; replace HB : Sl (Below w.heap.size w w1) := ⟨below_mv HB.out zm (by have := HB.out.size; have := ORD.out; omega) HB.out.size⟩; have XR : Sl (Blk w1 gR 26 TV0.cells) := ⟨zb⟩; clear zg zm zs zb)
    | (refine wpList_alloc_new 11 rfl rfl 26 rfl TV0.cells alloc_temper ?_; rintro w2 gU zg zm zs zb; replace ORD : Sl (w.heap.size ≤ gR ∧ gR < gU) := ⟨by have := HB.out.size; have := ORD.out; have := XR.out.lt; omega⟩; replace HB : Sl (Below w.heap.size w w2) := ⟨below_mv HB.out zm (by have := HB.out.size; have := ORD.out; omega) HB.out.size⟩; replace XR : Sl (Blk w2 gR 26 TV0.cells) := ⟨XR.out.mv zm (by have := XR.out.lt; have := ORD.out; omega)⟩; have XU : Sl (Blk w2 gU 26 TV0.cells) := ⟨zb⟩; clear zg zm zs zb)
    | (refine wpList_store_whole rfl 26 (.tmp 11) (.tmp 17) rfl gU (TV.mk nm syn wolf (fun _ => 0) (fun _ => 0)).cells rfl rfl 26 TV0.cells XU.out rfl (size_temper _) (TV.cells_one _) ?_; rintro w3 zm zs zb; replace HB : Sl (Below w.heap.size w w3) := ⟨below_mv HB.out zm (by have := HB.out.size; have := ORD.out; omega) HB.out.size⟩; replace XR : Sl (Blk w3 gR 26 TV0.cells) := ⟨XR.out.mv zm (by have := XR.out.lt; have := ORD.out; omega)⟩; replace XU : Sl (Blk w3 gU 26 (TV.mk nm syn wolf (fun _ => 0) (fun _ => 0)).cells) := ⟨zb⟩; clear zm zs zb))
  replace XU : Sl (Blk w3 gU 26 (TV.mA nm syn wolf 0).cells) := ⟨by rw [← TV.mA_zero]; exact XU.out⟩
  go_loopw [12] (fun s12 wr => ∃ k : Nat, k ≤ 12 ∧ s12 = .int .i64 k ∧ Sl (Below w.heap.size w wr) ∧ Sl (Blk wr gR 26 TV0.cells) ∧ Sl (Blk wr gU 26 (TV.mA nm syn wolf k).cells)) (fun s12 _ => 12 - (RowKit.intOf s12).toNat)
  case atStart => exact ⟨0, by decide, rfl, HB, XR, XU⟩
  case round =>
    clear HB XR XU
    obtain ⟨k, hk, rfl, HB, XR, XU⟩ := hrel
    by_cases hk12 : k < 12
    · have hk0 : (0 : Int) ≤ (k : Int) := by omega
      have hk1 : (k : Int) < 12 := by omega
      go_wp2_with ((with_reducible show wpList _ _ _ _ _ _); first
        | (refine wpList_store_part rfl 23 (.tmp 25) (.tmp 23) rfl gU (3 + k * 2) #[.int .i64 0, .int .i64 1] rfl rfl 26 (TV.mA nm syn wolf k).cells (TV.mA nm syn wolf (k + 1)).cells XU.out (by rw [TV.cells_size]; show 3 + k * 2 + 2 ≤ 27; omega) (TV.mA_succ hk12) (size_part _ _) (part_one _ _) ?_; rintro w4 zm zs zb; replace HB : Sl (Below w.heap.size w w4) := ⟨below_mv HB.out zm (by have := HB.out.size; have := ORD.out; omega) HB.out.size⟩; replace XR : Sl (Blk w4 gR 26 TV0.cells) := ⟨XR.out.mv zm (by have := XR.out.lt; have := ORD.out; omega)⟩; replace XU : Sl (Blk w4 gU 26 (TV.mA nm syn wolf (k + 1)).cells) := ⟨zb⟩; clear zm zs zb))
      exact ⟨⟨k + 1, hk12, by go_num, HB, XR, XU⟩, by simp [RowKit.intOf]; omega⟩
    · obtain rfl : k = 12 := by omega
      clear hk hk12
      go_wp2_with fail
      replace XU : Sl (Blk wr gU 26 (TV.mB nm syn wolf den L 0).cells) := ⟨by rw [← TV.mB_zero]; exact XU.out⟩
      have HB0 := HB
      go_loopw [13] (fun s13 wq => ∃ j : Nat, j ≤ n ∧ s13 = .int .i64 j ∧ Sl (Below w.heap.size w wq) ∧ Sl (Blk wq gR 26 TV0.cells) ∧ Sl (Blk wq gU 26 (TV.mB nm syn wolf den L j).cells)) (fun s13 _ => n - (RowKit.intOf s13).toNat)
      case atStart => exact ⟨0, Nat.zero_le _, rfl, HB, XR, XU⟩
      case round =>
        clear HB XR XU HB0
        obtain ⟨j, hj, rfl, HB, XR, XU⟩ := hrel
        by_cases hjn : j < n
        · have hjl : j < L.length := by have := HN.out; omega
          obtain ⟨g, rfl, hcell⟩ := HA.out j hjl
          have hlj := HR.out _ (List.getElem_mem hjl)
          obtain ⟨q, hq⟩ : ∃ q : Nat, L[j] = (q : Int) := ⟨L[j].toNat, by omega⟩
          have hq12 : q < 12 := by omega
          have hcw := hcell wr HB.out
          rw [hq] at hcw
          have HMB : Sl _ := ⟨TV.mB_succ (nm := nm) (syn := syn) (wolf := wolf) (den := den) hjl hq hq12⟩
          have hq0 : (0 : Int) ≤ (q : Int) := by omega
          have hq1 : (q : Int) < 12 := by omega
          have hj0 : (0 : Int) ≤ (j : Int) := by omega
          have hj1 : (j : Int) < (n : Int) := by omega
          clear hcell hlj hq hjl
          go_wp2_with ((with_reducible show wpList _ _ _ _ _ _); first
            | (refine wpList_store_part rfl 23 (.tmp 39) (.tmp 37) rfl gU (3 + q * 2) #[.int .i64 1, .int .i64 den] rfl rfl 26 (TV.mB nm syn wolf den L j).cells (TV.mB nm syn wolf den L (j + 1)).cells XU.out (by rw [TV.cells_size]; show 3 + q * 2 + 2 ≤ 27; omega) HMB.out (size_part _ _) (part_one _ _) ?_; rintro w15 zm zs zb; replace HB : Sl (Below w.heap.size w w15) := ⟨below_mv HB.out zm (by have := HB.out.size; have := ORD.out; omega) HB.out.size⟩; replace XR : Sl (Blk w15 gR 26 TV0.cells) := ⟨XR.out.mv zm (by have := XR.out.lt; have := ORD.out; omega)⟩; replace XU : Sl (Blk w15 gU 26 (TV.mB nm syn wolf den L (j + 1)).cells) := ⟨zb⟩; clear zm zs zb))
          first
            | exact ⟨⟨j + 1, hjn, by go_num, HB, XR, XU⟩, by simp [RowKit.intOf]; omega⟩
            | exact ⟨⟨j + 1, hjn, by omega, XU⟩, by simp [RowKit.intOf]; omega⟩
        · obtain rfl : j = n := by omega
          replace XU : Sl (Blk wr gU 26 (TV.mk5 nm syn wolf den L 12).cells) := ⟨by rw [← TV.mB_end, ← HN.out]; exact XU.out⟩
          clear hj hjn
          go_wp2_with ((with_reducible show wpList _ _ _ _ _ _); first
            | (refine wpList_load_whole rfl 26 (.tmp 11) rfl gU rfl 26 (TV.mk5 nm syn wolf den L 12).cells _ XU.out Tryd.underlying26 rfl (size_temper _) ?_)
            | (refine wpList_store_whole rfl 26 (.tmp 10) (.tmp 40) rfl gR (TV.mk5 nm syn wolf den L 12).cells rfl rfl 26 TV0.cells XR.out rfl (size_temper _) (TV.cells_one _) ?_; rintro w26 zm zs zb; replace HB : Sl (Below w.heap.size w w26) := ⟨below_mv HB.out zm (by have := HB.out.size; have := ORD.out; omega) HB.out.size⟩; replace XU : Sl (Blk w26 gU 26 (TV.mk5 nm syn wolf den L 12).cells) := ⟨XU.out.mv zm (by have := XU.out.lt; have := ORD.out; omega)⟩; replace XR : Sl (Blk w26 gR 26 (TV.mk5 nm syn wolf den L 12).cells) := ⟨zb⟩; clear zm zs zb))
          refine bodyPost_ret (results_cell_row rfl _ _ gR _ _ _ _ rfl XR.out Tryd.underlying26 rfl (size_temper _)) rfl ?_
          exact ⟨rfl, HB.out⟩
theorem list_blk {w : World} {g : Nat} {t : TypeId} {L : List Int} (hB : Blk w g t (ints L).toArray) : Sl (∀ j, (hj : j < L.length) → ∃ g', (some ⟨g, 0, none⟩ : Option Addr) = some ⟨g', 0, none⟩ ∧ ∀ W, Below w.heap.size w W → W.cell? ⟨g', j, none⟩ = some (.int .i64 L[j])) :=
  ⟨fun j hj => ⟨g, rfl, fun W h => by
    rw [(hB.below h hB.lt).cell]
    unfold ints
    simp [hj]⟩⟩
set_option maxHeartbeats 6400000 in
set_option maxRecDepth 100000 in
theorem r5Standard_any (nm : ByteArray) (w : World) : Calls Tryd.prog 16 #[.string nm] w fun e w' => e = .returned (.tuple #[.agg (stdT nm).1.cells, .int .i64 (stdT nm).2]) ∧ Below w.heap.size w w' := by
  have HB : Sl (Below w.heap.size w w) := ⟨Below.refl _ _⟩
  obtain ⟨sr, hsr⟩ : ∃ x, stdT nm = x := ⟨_, rfl⟩
  rw [hsr]
  have HSR : Sl _ := ⟨hsr⟩
  clear hsr
  by_cases h0 : (nm.toList == [101, 113, 117, 97, 108]) = true
  · have HV : Sl (sr = (TV.mk5 nm false 11 12 [0, 1, 2, 3, 4, 5, 6, 7, 8, 9, 10] 12, 0)) := ⟨by rw [← HSR.out]; unfold stdT; rw [if_pos h0]⟩
    go_enter Tryd.func16, Tryd.ntmps16
    go_wp2_with ((with_reducible show wpList _ _ _ _ _ _); first
      | (refine wpList_alloc_new 2 rfl rfl 26 rfl TV0.cells alloc_temper ?_; rintro w1 gR zg zm zs zb; have ORD : Sl (w.heap.size ≤ gR) := ⟨by have := HB.out.size; omega⟩; replace HB : Sl (Below w.heap.size w w1) := ⟨below_mv HB.out zm (by have := HB.out.size; have := ORD.out; omega) HB.out.size⟩; have XR : Sl (Blk w1 gR 26 TV0.cells) := ⟨zb⟩; clear zg zm zs zb))
    have hbx : Below w1.heap.size w1 (w1.alloc (.cells (ints [0, 1, 2, 3, 4, 5, 6, 7, 8, 9, 10]).toArray 3)) := (Below.refl _ _).alloc (Nat.le_refl _) _
    have HXB : Sl (Blk (w1.alloc (.cells (ints [0, 1, 2, 3, 4, 5, 6, 7, 8, 9, 10]).toArray 3)) w1.heap.size 3 (ints [0, 1, 2, 3, 4, 5, 6, 7, 8, 9, 10]).toArray) := ⟨Blk.new _ _ _⟩
    replace HB : Sl (Below w.heap.size w (w1.alloc (.cells (ints [0, 1, 2, 3, 4, 5, 6, 7, 8, 9, 10]).toArray 3))) := ⟨HB.out.trans (hbx.mono HB.out.size)⟩
    replace XR : Sl (Blk (w1.alloc (.cells (ints [0, 1, 2, 3, 4, 5, 6, 7, 8, 9, 10]).toArray 3)) gR 26 TV0.cells) := ⟨XR.out.below hbx XR.out.lt⟩
    clear hbx
    refine (made5_any nm false 11 12 [0, 1, 2, 3, 4, 5, 6, 7, 8, 9, 10] _ 11 (w1.alloc (.cells (ints [0, 1, 2, 3, 4, 5, 6, 7, 8, 9, 10]).toArray 3)) rfl (by decide) (by decide) (list_blk HXB.out)).mono ?_; rintro e w2 ⟨rfl, hb⟩
    replace HB : Sl (Below w.heap.size w w2) := ⟨HB.out.trans (hb.mono HB.out.size)⟩
    replace XR : Sl (Blk w2 gR 26 TV0.cells) := ⟨XR.out.below hb XR.out.lt⟩
    clear hb
    go_wp2_with ((with_reducible show wpList _ _ _ _ _ _); first
      | (refine wpList_store_whole rfl 26 (.tmp 2) (.tmp 9) rfl gR (TV.mk5 nm false 11 12 [0, 1, 2, 3, 4, 5, 6, 7, 8, 9, 10] 12).cells rfl rfl 26 TV0.cells XR.out rfl (size_temper _) (TV.cells_one _) ?_; rintro w3 zm zs zb; replace HB : Sl (Below w.heap.size w w3) := ⟨below_mv HB.out zm (by have := HB.out.size; have := ORD.out; omega) HB.out.size⟩; replace XR : Sl (Blk w3 gR 26 (TV.mk5 nm false 11 12 [0, 1, 2, 3, 4, 5, 6, 7, 8, 9, 10] 12).cells) := ⟨zb⟩; clear zm zs zb))
    refine bodyPost_ret (results_rowR rfl _ _ gR _ _ _ rfl XR.out Tryd.underlying26 rfl (size_temper _)) rfl ?_
    exact ⟨by rw [HV.out]; rfl, HB.out⟩
  by_cases h1 : (nm.toList == [112, 121, 116, 104, 97, 103, 111, 114, 101, 97, 110]) = true
  · have HV : Sl (sr = (TV.mk5 nm false 8 1 [] 12, 0)) := ⟨by rw [← HSR.out]; unfold stdT; rw [if_neg h0, if_pos h1]⟩
    have e0 : (nm.toList == [101, 113, 117, 97, 108]) = false := by simpa using h0
    clear h0
    go_enter Tryd.func16, Tryd.ntmps16
    go_wp2_with ((with_reducible show wpList _ _ _ _ _ _); first
      | (refine wpList_alloc_new 2 rfl rfl 26 rfl TV0.cells alloc_temper ?_; rintro w14 gR zg zm zs zb; have ORD : Sl (w.heap.size ≤ gR) := ⟨by have := HB.out.size; omega⟩; replace HB : Sl (Below w.heap.size w w14) := ⟨below_mv HB.out zm (by have := HB.out.size; have := ORD.out; omega) HB.out.size⟩; have XR : Sl (Blk w14 gR 26 TV0.cells) := ⟨zb⟩; clear zg zm zs zb))
    refine (made5_any nm false 8 1 [] none 0 _ rfl (by decide) (by decide) ⟨fun j hj => absurd hj (Nat.not_lt_zero _)⟩).mono ?_; rintro e w15 ⟨rfl, hb⟩
    replace HB : Sl (Below w.heap.size w w15) := ⟨HB.out.trans (hb.mono HB.out.size)⟩
    replace XR : Sl (Blk w15 gR 26 TV0.cells) := ⟨XR.out.below hb XR.out.lt⟩
    clear hb
    go_wp2_with ((with_reducible show wpList _ _ _ _ _ _); first
      | (refine wpList_store_whole rfl 26 (.tmp 2) (.tmp 13) rfl gR (TV.mk5 nm false 8 1 [] 12).cells rfl rfl 26 TV0.cells XR.out rfl (size_temper _) (TV.cells_one _) ?_; rintro w16 zm zs zb; replace HB : Sl (Below w.heap.size w w16) := ⟨below_mv HB.out zm (by have := HB.out.size; have := ORD.out; omega) HB.out.size⟩; replace XR : Sl (Blk w16 gR 26 (TV.mk5 nm false 8 1 [] 12).cells) := ⟨zb⟩; clear zm zs zb))
    refine bodyPost_ret (results_rowR rfl _ _ gR _ _ _ rfl XR.out Tryd.underlying26 rfl (size_temper _)) rfl ?_
    exact ⟨by rw [HV.out]; rfl, HB.out⟩
  by_cases h2 : (nm.toList == [109, 101, 97, 110, 116, 111, 110, 101]) = true
  · have HV : Sl (sr = (TV.mk5 nm true 8 4 [0, 1, 2, 3, 4, 5, 6, 7, 9, 10, 11] 12, 0)) := ⟨by rw [← HSR.out]; unfold stdT; rw [if_neg h0, if_neg h1, if_pos h2]⟩
    have e0 : (nm.toList == [101, 113, 117, 97, 108]) = false := by simpa using h0
    have e1 : (nm.toList == [112, 121, 116, 104, 97, 103, 111, 114, 101, 97, 110]) = false := by simpa using h1
    clear h0
    clear h1
    go_enter Tryd.func16, Tryd.ntmps16
    go_wp2_with ((with_reducible show wpList _ _ _ _ _ _); first
      | (refine wpList_alloc_new 2 rfl rfl 26 rfl TV0.cells alloc_temper ?_; rintro w27 gR zg zm zs zb; have ORD : Sl (w.heap.size ≤ gR) := ⟨by have := HB.out.size; omega⟩; replace HB : Sl (Below w.heap.size w w27) := ⟨below_mv HB.out zm (by have := HB.out.size; have := ORD.out; omega) HB.out.size⟩; have XR : Sl (Blk w27 gR 26 TV0.cells) := ⟨zb⟩; clear zg zm zs zb))
    have hbx : Below w27.heap.size w27 (w27.alloc (.cells (ints [0, 1, 2, 3, 4, 5, 6, 7, 9, 10, 11]).toArray 3)) := (Below.refl _ _).alloc (Nat.le_refl _) _
    have HXB : Sl (Blk (w27.alloc (.cells (ints [0, 1, 2, 3, 4, 5, 6, 7, 9, 10, 11]).toArray 3)) w27.heap.size 3 (ints [0, 1, 2, 3, 4, 5, 6, 7, 9, 10, 11]).toArray) := ⟨Blk.new _ _ _⟩
    replace HB : Sl (Below w.heap.size w (w27.alloc (.cells (ints [0, 1, 2, 3, 4, 5, 6, 7, 9, 10, 11]).toArray 3))) := ⟨HB.out.trans (hbx.mono HB.out.size)⟩
    replace XR : Sl (Blk (w27.alloc (.cells (ints [0, 1, 2, 3, 4, 5, 6, 7, 9, 10, 11]).toArray 3)) gR 26 TV0.cells) := ⟨XR.out.below hbx XR.out.lt⟩
    clear hbx
    refine (made5_any nm true 8 4 [0, 1, 2, 3, 4, 5, 6, 7, 9, 10, 11] _ 11 (w27.alloc (.cells (ints [0, 1, 2, 3, 4, 5, 6, 7, 9, 10, 11]).toArray 3)) rfl (by decide) (by decide) (list_blk HXB.out)).mono ?_; rintro e w28 ⟨rfl, hb⟩
    replace HB : Sl (Below w.heap.size w w28) := ⟨HB.out.trans (hb.mono HB.out.size)⟩
    replace XR : Sl (Blk w28 gR 26 TV0.cells) := ⟨XR.out.below hb XR.out.lt⟩
    clear hb
    go_wp2_with ((with_reducible show wpList _ _ _ _ _ _); first
      | (refine wpList_store_whole rfl 26 (.tmp 2) (.tmp 18) rfl gR (TV.mk5 nm true 8 4 [0, 1, 2, 3, 4, 5, 6, 7, 9, 10, 11] 12).cells rfl rfl 26 TV0.cells XR.out rfl (size_temper _) (TV.cells_one _) ?_; rintro w29 zm zs zb; replace HB : Sl (Below w.heap.size w w29) := ⟨below_mv HB.out zm (by have := HB.out.size; have := ORD.out; omega) HB.out.size⟩; replace XR : Sl (Blk w29 gR 26 (TV.mk5 nm true 8 4 [0, 1, 2, 3, 4, 5, 6, 7, 9, 10, 11] 12).cells) := ⟨zb⟩; clear zm zs zb))
    refine bodyPost_ret (results_rowR rfl _ _ gR _ _ _ rfl XR.out Tryd.underlying26 rfl (size_temper _)) rfl ?_
    exact ⟨by rw [HV.out]; rfl, HB.out⟩
  by_cases h3 : (nm.toList == [119, 101, 114, 99, 107, 109, 101, 105, 115, 116, 101, 114]) = true
  · have HV : Sl (sr = (TV.mk5 nm false 11 4 [0, 1, 2, 5] 12, 0)) := ⟨by rw [← HSR.out]; unfold stdT; rw [if_neg h0, if_neg h1, if_neg h2, if_pos h3]⟩
    have e0 : (nm.toList == [101, 113, 117, 97, 108]) = false := by simpa using h0
    have e1 : (nm.toList == [112, 121, 116, 104, 97, 103, 111, 114, 101, 97, 110]) = false := by simpa using h1
    have e2 : (nm.toList == [109, 101, 97, 110, 116, 111, 110, 101]) = false := by simpa using h2
    clear h0
    clear h1
    clear h2
    go_enter Tryd.func16, Tryd.ntmps16
    go_wp2_with ((with_reducible show wpList _ _ _ _ _ _); first
      | (refine wpList_alloc_new 2 rfl rfl 26 rfl TV0.cells alloc_temper ?_; rintro w40 gR zg zm zs zb; have ORD : Sl (w.heap.size ≤ gR) := ⟨by have := HB.out.size; omega⟩; replace HB : Sl (Below w.heap.size w w40) := ⟨below_mv HB.out zm (by have := HB.out.size; have := ORD.out; omega) HB.out.size⟩; have XR : Sl (Blk w40 gR 26 TV0.cells) := ⟨zb⟩; clear zg zm zs zb))
    have hbx : Below w40.heap.size w40 (w40.alloc (.cells (ints [0, 1, 2, 5]).toArray 3)) := (Below.refl _ _).alloc (Nat.le_refl _) _
    have HXB : Sl (Blk (w40.alloc (.cells (ints [0, 1, 2, 5]).toArray 3)) w40.heap.size 3 (ints [0, 1, 2, 5]).toArray) := ⟨Blk.new _ _ _⟩
    replace HB : Sl (Below w.heap.size w (w40.alloc (.cells (ints [0, 1, 2, 5]).toArray 3))) := ⟨HB.out.trans (hbx.mono HB.out.size)⟩
    replace XR : Sl (Blk (w40.alloc (.cells (ints [0, 1, 2, 5]).toArray 3)) gR 26 TV0.cells) := ⟨XR.out.below hbx XR.out.lt⟩
    clear hbx
    refine (made5_any nm false 11 4 [0, 1, 2, 5] _ 4 (w40.alloc (.cells (ints [0, 1, 2, 5]).toArray 3)) rfl (by decide) (by decide) (list_blk HXB.out)).mono ?_; rintro e w41 ⟨rfl, hb⟩
    replace HB : Sl (Below w.heap.size w w41) := ⟨HB.out.trans (hb.mono HB.out.size)⟩
    replace XR : Sl (Blk w41 gR 26 TV0.cells) := ⟨XR.out.below hb XR.out.lt⟩
    clear hb
    go_wp2_with ((with_reducible show wpList _ _ _ _ _ _); first
      | (refine wpList_store_whole rfl 26 (.tmp 2) (.tmp 23) rfl gR (TV.mk5 nm false 11 4 [0, 1, 2, 5] 12).cells rfl rfl 26 TV0.cells XR.out rfl (size_temper _) (TV.cells_one _) ?_; rintro w42 zm zs zb; replace HB : Sl (Below w.heap.size w w42) := ⟨below_mv HB.out zm (by have := HB.out.size; have := ORD.out; omega) HB.out.size⟩; replace XR : Sl (Blk w42 gR 26 (TV.mk5 nm false 11 4 [0, 1, 2, 5] 12).cells) := ⟨zb⟩; clear zm zs zb))
    refine bodyPost_ret (results_rowR rfl _ _ gR _ _ _ rfl XR.out Tryd.underlying26 rfl (size_temper _)) rfl ?_
    exact ⟨by rw [HV.out]; rfl, HB.out⟩
  by_cases h4 : (nm.toList == [107, 105, 114, 110, 98, 101, 114, 103, 101, 114]) = true
  · have HV : Sl (sr = (TV.mk5 nm true 6 4 [0, 1, 2, 3] 12, 0)) := ⟨by rw [← HSR.out]; unfold stdT; rw [if_neg h0, if_neg h1, if_neg h2, if_neg h3, if_pos h4]⟩
    have e0 : (nm.toList == [101, 113, 117, 97, 108]) = false := by simpa using h0
    have e1 : (nm.toList == [112, 121, 116, 104, 97, 103, 111, 114, 101, 97, 110]) = false := by simpa using h1
    have e2 : (nm.toList == [109, 101, 97, 110, 116, 111, 110, 101]) = false := by simpa using h2
    have e3 : (nm.toList == [119, 101, 114, 99, 107, 109, 101, 105, 115, 116, 101, 114]) = false := by simpa using h3
    clear h0
    clear h1
    clear h2
    clear h3
    go_enter Tryd.func16, Tryd.ntmps16
    go_wp2_with ((with_reducible show wpList _ _ _ _ _ _); first
      | (refine wpList_alloc_new 2 rfl rfl 26 rfl TV0.cells alloc_temper ?_; rintro w53 gR zg zm zs zb; have ORD : Sl (w.heap.size ≤ gR) := ⟨by have := HB.out.size; omega⟩; replace HB : Sl (Below w.heap.size w w53) := ⟨below_mv HB.out zm (by have := HB.out.size; have := ORD.out; omega) HB.out.size⟩; have XR : Sl (Blk w53 gR 26 TV0.cells) := ⟨zb⟩; clear zg zm zs zb))
    have hbx : Below w53.heap.size w53 (w53.alloc (.cells (ints [0, 1, 2, 3]).toArray 3)) := (Below.refl _ _).alloc (Nat.le_refl _) _
    have HXB : Sl (Blk (w53.alloc (.cells (ints [0, 1, 2, 3]).toArray 3)) w53.heap.size 3 (ints [0, 1, 2, 3]).toArray) := ⟨Blk.new _ _ _⟩
    replace HB : Sl (Below w.heap.size w (w53.alloc (.cells (ints [0, 1, 2, 3]).toArray 3))) := ⟨HB.out.trans (hbx.mono HB.out.size)⟩
    replace XR : Sl (Blk (w53.alloc (.cells (ints [0, 1, 2, 3]).toArray 3)) gR 26 TV0.cells) := ⟨XR.out.below hbx XR.out.lt⟩
    clear hbx
    refine (made5_any nm true 6 4 [0, 1, 2, 3] _ 4 (w53.alloc (.cells (ints [0, 1, 2, 3]).toArray 3)) rfl (by decide) (by decide) (list_blk HXB.out)).mono ?_; rintro e w54 ⟨rfl, hb⟩
    replace HB : Sl (Below w.heap.size w w54) := ⟨HB.out.trans (hb.mono HB.out.size)⟩
    replace XR : Sl (Blk w54 gR 26 TV0.cells) := ⟨XR.out.below hb XR.out.lt⟩
    clear hb
    go_wp2_with ((with_reducible show wpList _ _ _ _ _ _); first
      | (refine wpList_store_whole rfl 26 (.tmp 2) (.tmp 28) rfl gR (TV.mk5 nm true 6 4 [0, 1, 2, 3] 12).cells rfl rfl 26 TV0.cells XR.out rfl (size_temper _) (TV.cells_one _) ?_; rintro w55 zm zs zb; replace HB : Sl (Below w.heap.size w w55) := ⟨below_mv HB.out zm (by have := HB.out.size; have := ORD.out; omega) HB.out.size⟩; replace XR : Sl (Blk w55 gR 26 (TV.mk5 nm true 6 4 [0, 1, 2, 3] 12).cells) := ⟨zb⟩; clear zm zs zb))
    refine bodyPost_ret (results_rowR rfl _ _ gR _ _ _ rfl XR.out Tryd.underlying26 rfl (size_temper _)) rfl ?_
    exact ⟨by rw [HV.out]; rfl, HB.out⟩
  by_cases h5 : (nm.toList == [118, 97, 108, 108, 111, 116, 116, 105]) = true
  · have HV : Sl (sr = (TV.mk5 nm false 6 6 [0, 1, 2, 3, 4, 11] 12, 0)) := ⟨by rw [← HSR.out]; unfold stdT; rw [if_neg h0, if_neg h1, if_neg h2, if_neg h3, if_neg h4, if_pos h5]⟩
    have e0 : (nm.toList == [101, 113, 117, 97, 108]) = false := by simpa using h0
    have e1 : (nm.toList == [112, 121, 116, 104, 97, 103, 111, 114, 101, 97, 110]) = false := by simpa using h1
    have e2 : (nm.toList == [109, 101, 97, 110, 116, 111, 110, 101]) = false := by simpa using h2
    have e3 : (nm.toList == [119, 101, 114, 99, 107, 109, 101, 105, 115, 116, 101, 114]) = false := by simpa using h3
    have e4 : (nm.toList == [107, 105, 114, 110, 98, 101, 114, 103, 101, 114]) = false := by simpa using h4
    clear h0
    clear h1
    clear h2
    clear h3
    clear h4
    go_enter Tryd.func16, Tryd.ntmps16
    go_wp2_with ((with_reducible show wpList _ _ _ _ _ _); first
      | (refine wpList_alloc_new 2 rfl rfl 26 rfl TV0.cells alloc_temper ?_; rintro w66 gR zg zm zs zb; have ORD : Sl (w.heap.size ≤ gR) := ⟨by have := HB.out.size; omega⟩; replace HB : Sl (Below w.heap.size w w66) := ⟨below_mv HB.out zm (by have := HB.out.size; have := ORD.out; omega) HB.out.size⟩; have XR : Sl (Blk w66 gR 26 TV0.cells) := ⟨zb⟩; clear zg zm zs zb))
    have hbx : Below w66.heap.size w66 (w66.alloc (.cells (ints [0, 1, 2, 3, 4, 11]).toArray 3)) := (Below.refl _ _).alloc (Nat.le_refl _) _
    have HXB : Sl (Blk (w66.alloc (.cells (ints [0, 1, 2, 3, 4, 11]).toArray 3)) w66.heap.size 3 (ints [0, 1, 2, 3, 4, 11]).toArray) := ⟨Blk.new _ _ _⟩
    replace HB : Sl (Below w.heap.size w (w66.alloc (.cells (ints [0, 1, 2, 3, 4, 11]).toArray 3))) := ⟨HB.out.trans (hbx.mono HB.out.size)⟩
    replace XR : Sl (Blk (w66.alloc (.cells (ints [0, 1, 2, 3, 4, 11]).toArray 3)) gR 26 TV0.cells) := ⟨XR.out.below hbx XR.out.lt⟩
    clear hbx
    refine (made5_any nm false 6 6 [0, 1, 2, 3, 4, 11] _ 6 (w66.alloc (.cells (ints [0, 1, 2, 3, 4, 11]).toArray 3)) rfl (by decide) (by decide) (list_blk HXB.out)).mono ?_; rintro e w67 ⟨rfl, hb⟩
    replace HB : Sl (Below w.heap.size w w67) := ⟨HB.out.trans (hb.mono HB.out.size)⟩
    replace XR : Sl (Blk w67 gR 26 TV0.cells) := ⟨XR.out.below hb XR.out.lt⟩
    clear hb
    go_wp2_with ((with_reducible show wpList _ _ _ _ _ _); first
      | (refine wpList_store_whole rfl 26 (.tmp 2) (.tmp 33) rfl gR (TV.mk5 nm false 6 6 [0, 1, 2, 3, 4, 11] 12).cells rfl rfl 26 TV0.cells XR.out rfl (size_temper _) (TV.cells_one _) ?_; rintro w68 zm zs zb; replace HB : Sl (Below w.heap.size w w68) := ⟨below_mv HB.out zm (by have := HB.out.size; have := ORD.out; omega) HB.out.size⟩; replace XR : Sl (Blk w68 gR 26 (TV.mk5 nm false 6 6 [0, 1, 2, 3, 4, 11] 12).cells) := ⟨zb⟩; clear zm zs zb))
    refine bodyPost_ret (results_rowR rfl _ _ gR _ _ _ rfl XR.out Tryd.underlying26 rfl (size_temper _)) rfl ?_
    exact ⟨by rw [HV.out]; rfl, HB.out⟩
  by_cases h6 : (nm.toList == [121, 111, 117, 110, 103]) = true
  · have HV : Sl (sr = (TV.mk5 nm false 11 6 [0, 1, 2, 3, 4, 5] 12, 0)) := ⟨by rw [← HSR.out]; unfold stdT; rw [if_neg h0, if_neg h1, if_neg h2, if_neg h3, if_neg h4, if_neg h5, if_pos h6]⟩
    have e0 : (nm.toList == [101, 113, 117, 97, 108]) = false := by simpa using h0
    have e1 : (nm.toList == [112, 121, 116, 104, 97, 103, 111, 114, 101, 97, 110]) = false := by simpa using h1
    have e2 : (nm.toList == [109, 101, 97, 110, 116, 111, 110, 101]) = false := by simpa using h2
    have e3 : (nm.toList == [119, 101, 114, 99, 107, 109, 101, 105, 115, 116, 101, 114]) = false := by simpa using h3
    have e4 : (nm.toList == [107, 105, 114, 110, 98, 101, 114, 103, 101, 114]) = false := by simpa using h4
    have e5 : (nm.toList == [118, 97, 108, 108, 111, 116, 116, 105]) = false := by simpa using h5
    clear h0
    clear h1
    clear h2
    clear h3
    clear h4
    clear h5
    go_enter Tryd.func16, Tryd.ntmps16
    go_wp2_with ((with_reducible show wpList _ _ _ _ _ _); first
      | (refine wpList_alloc_new 2 rfl rfl 26 rfl TV0.cells alloc_temper ?_; rintro w79 gR zg zm zs zb; have ORD : Sl (w.heap.size ≤ gR) := ⟨by have := HB.out.size; omega⟩; replace HB : Sl (Below w.heap.size w w79) := ⟨below_mv HB.out zm (by have := HB.out.size; have := ORD.out; omega) HB.out.size⟩; have XR : Sl (Blk w79 gR 26 TV0.cells) := ⟨zb⟩; clear zg zm zs zb))
    have hbx : Below w79.heap.size w79 (w79.alloc (.cells (ints [0, 1, 2, 3, 4, 5]).toArray 3)) := (Below.refl _ _).alloc (Nat.le_refl _) _
    have HXB : Sl (Blk (w79.alloc (.cells (ints [0, 1, 2, 3, 4, 5]).toArray 3)) w79.heap.size 3 (ints [0, 1, 2, 3, 4, 5]).toArray) := ⟨Blk.new _ _ _⟩
    replace HB : Sl (Below w.heap.size w (w79.alloc (.cells (ints [0, 1, 2, 3, 4, 5]).toArray 3))) := ⟨HB.out.trans (hbx.mono HB.out.size)⟩
    replace XR : Sl (Blk (w79.alloc (.cells (ints [0, 1, 2, 3, 4, 5]).toArray 3)) gR 26 TV0.cells) := ⟨XR.out.below hbx XR.out.lt⟩
    clear hbx
    refine (made5_any nm false 11 6 [0, 1, 2, 3, 4, 5] _ 6 (w79.alloc (.cells (ints [0, 1, 2, 3, 4, 5]).toArray 3)) rfl (by decide) (by decide) (list_blk HXB.out)).mono ?_; rintro e w80 ⟨rfl, hb⟩
    replace HB : Sl (Below w.heap.size w w80) := ⟨HB.out.trans (hb.mono HB.out.size)⟩
    replace XR : Sl (Blk w80 gR 26 TV0.cells) := ⟨XR.out.below hb XR.out.lt⟩
    clear hb
    go_wp2_with ((with_reducible show wpList _ _ _ _ _ _); first
      | (refine wpList_store_whole rfl 26 (.tmp 2) (.tmp 38) rfl gR (TV.mk5 nm false 11 6 [0, 1, 2, 3, 4, 5] 12).cells rfl rfl 26 TV0.cells XR.out rfl (size_temper _) (TV.cells_one _) ?_; rintro w81 zm zs zb; replace HB : Sl (Below w.heap.size w w81) := ⟨below_mv HB.out zm (by have := HB.out.size; have := ORD.out; omega) HB.out.size⟩; replace XR : Sl (Blk w81 gR 26 (TV.mk5 nm false 11 6 [0, 1, 2, 3, 4, 5] 12).cells) := ⟨zb⟩; clear zm zs zb))
    refine bodyPost_ret (results_rowR rfl _ _ gR _ _ _ rfl XR.out Tryd.underlying26 rfl (size_temper _)) rfl ?_
    exact ⟨by rw [HV.out]; rfl, HB.out⟩
  have HV : Sl (sr = (TV0, 4)) := ⟨by rw [← HSR.out]; unfold stdT; rw [if_neg h0, if_neg h1, if_neg h2, if_neg h3, if_neg h4, if_neg h5, if_neg h6]⟩
  have e0 : (nm.toList == [101, 113, 117, 97, 108]) = false := by simpa using h0
  have e1 : (nm.toList == [112, 121, 116, 104, 97, 103, 111, 114, 101, 97, 110]) = false := by simpa using h1
  have e2 : (nm.toList == [109, 101, 97, 110, 116, 111, 110, 101]) = false := by simpa using h2
  have e3 : (nm.toList == [119, 101, 114, 99, 107, 109, 101, 105, 115, 116, 101, 114]) = false := by simpa using h3
  have e4 : (nm.toList == [107, 105, 114, 110, 98, 101, 114, 103, 101, 114]) = false := by simpa using h4
  have e5 : (nm.toList == [118, 97, 108, 108, 111, 116, 116, 105]) = false := by simpa using h5
  have e6 : (nm.toList == [121, 111, 117, 110, 103]) = false := by simpa using h6
  clear h0
  clear h1
  clear h2
  clear h3
  clear h4
  clear h5
  clear h6
  go_enter Tryd.func16, Tryd.ntmps16
  go_wp2_with ((with_reducible show wpList _ _ _ _ _ _); first
    | (refine wpList_alloc_new 2 rfl rfl 26 rfl TV0.cells alloc_temper ?_; rintro w92 gR zg zm zs zb; have ORD : Sl (w.heap.size ≤ gR) := ⟨by have := HB.out.size; omega⟩; replace HB : Sl (Below w.heap.size w w92) := ⟨below_mv HB.out zm (by have := HB.out.size; have := ORD.out; omega) HB.out.size⟩; have XR : Sl (Blk w92 gR 26 TV0.cells) := ⟨zb⟩; clear zg zm zs zb)
    | (refine wpList_store_whole rfl 26 (.tmp 2) (.tmp 39) rfl gR TV0.cells rfl rfl 26 TV0.cells XR.out rfl (size_temper _) (TV.cells_one _) ?_; rintro w93 zm zs zb; replace HB : Sl (Below w.heap.size w w93) := ⟨below_mv HB.out zm (by have := HB.out.size; have := ORD.out; omega) HB.out.size⟩; replace XR : Sl (Blk w93 gR 26 TV0.cells) := ⟨zb⟩; clear zm zs zb))
  refine bodyPost_ret (results_rowR rfl _ _ gR _ _ _ rfl XR.out Tryd.underlying26 rfl (size_temper _)) rfl ?_
  exact ⟨by rw [HV.out]; rfl, HB.out⟩
end Go.Proofs.YtmcoadmnkelkkaaDoor
namespace Go.Proofs.YtmcoadmnkelkkaaDoor
set_option linter.unusedSimpArgs false
open Go.RowKit
set_option linter.unusedVariables false

theorem eq_part (W : World) (n d : Int) : (Op.equalIn 9998 23 (.agg #[.int .i64 n, .int .i64 d]) (.agg #[.int .i64 n, .int .i64 d])).run Tryd.prog W = .ok true W := by
  go_simp
theorem part12_0 (W : World) (t : TV) : (part 23 t.parts 0).run Tryd.prog W = .ok (.agg #[.int .i64 (t.num 0), .int .i64 (t.den 0)]) W := by kernel_rfl
theorem part12_1 (W : World) (t : TV) : (part 23 t.parts 2).run Tryd.prog W = .ok (.agg #[.int .i64 (t.num 1), .int .i64 (t.den 1)]) W := by kernel_rfl
theorem part12_2 (W : World) (t : TV) : (part 23 t.parts 4).run Tryd.prog W = .ok (.agg #[.int .i64 (t.num 2), .int .i64 (t.den 2)]) W := by kernel_rfl
theorem part12_3 (W : World) (t : TV) : (part 23 t.parts 6).run Tryd.prog W = .ok (.agg #[.int .i64 (t.num 3), .int .i64 (t.den 3)]) W := by kernel_rfl
theorem part12_4 (W : World) (t : TV) : (part 23 t.parts 8).run Tryd.prog W = .ok (.agg #[.int .i64 (t.num 4), .int .i64 (t.den 4)]) W := by kernel_rfl
theorem part12_5 (W : World) (t : TV) : (part 23 t.parts 10).run Tryd.prog W = .ok (.agg #[.int .i64 (t.num 5), .int .i64 (t.den 5)]) W := by kernel_rfl
theorem part12_6 (W : World) (t : TV) : (part 23 t.parts 12).run Tryd.prog W = .ok (.agg #[.int .i64 (t.num 6), .int .i64 (t.den 6)]) W := by kernel_rfl
theorem part12_7 (W : World) (t : TV) : (part 23 t.parts 14).run Tryd.prog W = .ok (.agg #[.int .i64 (t.num 7), .int .i64 (t.den 7)]) W := by kernel_rfl
theorem part12_8 (W : World) (t : TV) : (part 23 t.parts 16).run Tryd.prog W = .ok (.agg #[.int .i64 (t.num 8), .int .i64 (t.den 8)]) W := by kernel_rfl
theorem part12_9 (W : World) (t : TV) : (part 23 t.parts 18).run Tryd.prog W = .ok (.agg #[.int .i64 (t.num 9), .int .i64 (t.den 9)]) W := by kernel_rfl
theorem part12_10 (W : World) (t : TV) : (part 23 t.parts 20).run Tryd.prog W = .ok (.agg #[.int .i64 (t.num 10), .int .i64 (t.den 10)]) W := by kernel_rfl
theorem part12_11 (W : World) (t : TV) : (part 23 t.parts 22).run Tryd.prog W = .ok (.agg #[.int .i64 (t.num 11), .int .i64 (t.den 11)]) W := by kernel_rfl
theorem eq_parts (W : World) (t : TV) : (Op.equalIn 9999 24 (.agg t.parts) (.agg t.parts)).run Tryd.prog W = .ok true W := by
  have hsome : (Tryd.prog.info? 23).isSome = true := by kernel_rfl
  obtain ⟨i, hi⟩ := Option.isSome_iff_exists.1 hsome
  have hc : Tryd.prog.cellsOf 23 = 2 := by kernel_rfl
  have he := eq_part
  rw [run_equalIn_array W 9998 _ _ Tryd.underlying24 hi, hc]
  have hl : List.range 12 = [0, 1, 2, 3, 4, 5, 6, 7, 8, 9, 10, 11] := by decide
  rw [hl]
  simp [Op.eqItems, Sem.run_bind, part12_0, part12_1, part12_2, part12_3, part12_4, part12_5, part12_6, part12_7, part12_8, part12_9, part12_10, part12_11, he, Result.andThen]
theorem TV.parts_ext2 (t : TV) : t.cells.extract 3 27 = t.parts := by kernel_rfl
section
variable {P : Program} {ops : Array Oper} {rest : List Oper} {op : Oper} {a : Act} {w : World} {Q : Exit → Act → World → Prop}
/-- the same of a guarded load whose guard holds -/
theorem wpList_load_wholew (hw : Region.wanted op (yielded ops a.tmps) = true) (ty : TypeId) (x : Operand) (ho : op.op = .load ty x)
    (g : Nat) (hx : a.eval x = .pointer (some ⟨g, 0, none⟩)) (t : TypeId) (cs : Array Value) (d : TypeDesc) (hB : Blk w g t cs)
    (hu : P.underlying ty = some d) (hd : d.isRow = true) (hi : (P.info? ty).map (·.size) = some cs.size)
    (h : wpList P ops Q rest (a.put op.dst (.agg cs)) w) : wpList P ops Q (op :: rest) a w := by
  refine wpList_step fun K hK => ?_
  rw [if_pos hw]
  exact wp_load_all ty x ho g hx t cs d hB hu hd hi (hK _ _ h)
end
attribute [-simp] Tryd.isAgg26 Tryd.isAgg24
set_option maxHeartbeats 6400000 in
set_option maxRecDepth 100000 in
theorem temperTurns_any (t : TV) (hs : t.nm.size ≤ maxLen) (z : Int) (nm : ByteArray) (hn : nm.size ≤ maxLen) (w : World) (hT : PrT w) : Calls Tryd.prog 5 #[.agg t.cells, .int .i64 z, .string nm] w fun e w' => e = .returned (.bool true) ∧ Below w.heap.size w w' := by
  have HB : Sl (Below w.heap.size w w) := ⟨Below.refl _ _⟩
  have HT : Sl _ := ⟨hT⟩
  have H1 : Sl _ := ⟨fun W : World => turn_any t hs z W⟩
  have H2 : Sl _ := ⟨fun W : World => r5turn_any t hs z W⟩
  have H3 : Sl _ := ⟨fun W : World => Standard_any nm W⟩
  have H4 : Sl _ := ⟨fun W : World => r5Standard_any nm W⟩
  have H5 : Sl _ := ⟨fun (W : World) (h : PrT W) => awake5_any W h⟩
  clear hT hs hn
  generalize t.trn z = A at *
  generalize stdT nm = B at *
  obtain ⟨a, ea⟩ := A
  obtain ⟨b, eb⟩ := B
  have HA : Sl _ := ⟨And.intro a.cell0 (And.intro a.cell1 (And.intro a.cell2 (And.intro a.parts_ext2 (fun W => eq_parts W a))))⟩
  have HB' : Sl _ := ⟨And.intro b.cell0 (And.intro b.cell1 (And.intro b.cell2 (And.intro b.parts_ext2 (fun W => eq_parts W b))))⟩
  have sza := size_temper a
  have szb := size_temper b
  have oa := a.cells_one
  have ob := b.cells_one
  have za : a.cells.size = TV0.cells.size := rfl
  have zb2 : b.cells.size = TV0.cells.size := rfl
  have HSZ : Sl _ := ⟨And.intro sza (And.intro szb (And.intro oa (And.intro ob (And.intro za zb2))))⟩
  clear sza szb oa ob za zb2
  simp only at H1 H2 H3 H4
  generalize a.cells = ca at *
  generalize b.cells = cb at *
  generalize a.parts = pa at *
  generalize b.parts = pb at *
  go_enter Tryd.func5, Tryd.ntmps5
  go_wp2_with ((with_reducible show wpList _ _ _ _ _ _); first
    | (refine wpList_box_new 3 rfl rfl 26 (.tmp 0) rfl t.cells rfl (box_temper t) ?_; rintro w1 gT zg zm zs zb; have ORD : Sl (w.heap.size ≤ gT) := ⟨by have := HB.out.size; omega⟩; replace HB : Sl (Below w.heap.size w w1) := ⟨below_mv HB.out zm (by have := HB.out.size; have := ORD.out; omega) HB.out.size⟩; have XT : Sl (Blk w1 gT 26 t.cells) := ⟨zb⟩; clear zg zm zs zb)
    | (refine wpList_load_whole rfl 26 (.tmp 3) rfl gT rfl 26 t.cells _ XT.out Tryd.underlying26 rfl (size_temper t) ?_))
  refine (H1.out _).mono ?_; rintro e w2 ⟨rfl, hb⟩
  replace HB : Sl (Below w.heap.size w w2) := ⟨HB.out.trans (hb.mono HB.out.size)⟩
  replace XT : Sl (Blk w2 gT 26 t.cells) := ⟨XT.out.below hb XT.out.lt⟩
  clear hb
  go_wp2_with ((with_reducible show wpList _ _ _ _ _ _); first
    | (refine wpList_alloc_new 7 rfl rfl 26 rfl TV0.cells alloc_temper ?_; rintro w3 gA zg zm zs zb; replace ORD : Sl (w.heap.size ≤ gT ∧ gT < gA) := ⟨by have := HB.out.size; have := ORD.out; have := XT.out.lt; omega⟩; replace HB : Sl (Below w.heap.size w w3) := ⟨below_mv HB.out zm (by have := HB.out.size; have := ORD.out; omega) HB.out.size⟩; replace XT : Sl (Blk w3 gT 26 t.cells) := ⟨XT.out.mv zm (by have := XT.out.lt; have := ORD.out; omega)⟩; have XA : Sl (Blk w3 gA 26 TV0.cells) := ⟨zb⟩; clear zg zm zs zb)
    | (refine wpList_store_whole rfl 26 (.tmp 7) (.tmp 19) rfl gA ca rfl rfl 26 TV0.cells XA.out HSZ.out.2.2.2.2.1 HSZ.out.1 HSZ.out.2.2.1 ?_; rintro w4 zm zs zb; replace HB : Sl (Below w.heap.size w w4) := ⟨below_mv HB.out zm (by have := HB.out.size; have := ORD.out; omega) HB.out.size⟩; replace XT : Sl (Blk w4 gT 26 t.cells) := ⟨XT.out.mv zm (by have := XT.out.lt; have := ORD.out; omega)⟩; replace XA : Sl (Blk w4 gA 26 ca) := ⟨zb⟩; clear zm zs zb)
    | (refine wpList_load_whole rfl 26 (.tmp 3) rfl gT rfl 26 t.cells _ XT.out Tryd.underlying26 rfl (size_temper t) ?_))
  refine (H2.out _).mono ?_; rintro e w5 ⟨rfl, hb⟩
  replace HB : Sl (Below w.heap.size w w5) := ⟨HB.out.trans (hb.mono HB.out.size)⟩
  replace XT : Sl (Blk w5 gT 26 t.cells) := ⟨XT.out.below hb XT.out.lt⟩
  replace XA : Sl (Blk w5 gA 26 ca) := ⟨XA.out.below hb XA.out.lt⟩
  clear hb
  go_wp2_with ((with_reducible show wpList _ _ _ _ _ _); first
    | (refine wpList_alloc_new 9 rfl rfl 26 rfl TV0.cells alloc_temper ?_; rintro w6 gB zg zm zs zb; replace ORD : Sl (w.heap.size ≤ gT ∧ gT < gA ∧ gA < gB) := ⟨by have := HB.out.size; have := ORD.out; have := XT.out.lt; have := XA.out.lt; omega⟩; replace HB : Sl (Below w.heap.size w w6) := ⟨below_mv HB.out zm (by have := HB.out.size; have := ORD.out; omega) HB.out.size⟩; replace XT : Sl (Blk w6 gT 26 t.cells) := ⟨XT.out.mv zm (by have := XT.out.lt; have := ORD.out; omega)⟩; replace XA : Sl (Blk w6 gA 26 ca) := ⟨XA.out.mv zm (by have := XA.out.lt; have := ORD.out; omega)⟩; have XB : Sl (Blk w6 gB 26 TV0.cells) := ⟨zb⟩; clear zg zm zs zb)
    | (refine wpList_store_whole rfl 26 (.tmp 9) (.tmp 25) rfl gB ca rfl rfl 26 TV0.cells XB.out HSZ.out.2.2.2.2.1 HSZ.out.1 HSZ.out.2.2.1 ?_; rintro w7 zm zs zb; replace HB : Sl (Below w.heap.size w w7) := ⟨below_mv HB.out zm (by have := HB.out.size; have := ORD.out; omega) HB.out.size⟩; replace XT : Sl (Blk w7 gT 26 t.cells) := ⟨XT.out.mv zm (by have := XT.out.lt; have := ORD.out; omega)⟩; replace XA : Sl (Blk w7 gA 26 ca) := ⟨XA.out.mv zm (by have := XA.out.lt; have := ORD.out; omega)⟩; replace XB : Sl (Blk w7 gB 26 ca) := ⟨zb⟩; clear zm zs zb))
  refine (H3.out _).mono ?_; rintro e w8 ⟨rfl, hb⟩
  replace HB : Sl (Below w.heap.size w w8) := ⟨HB.out.trans (hb.mono HB.out.size)⟩
  replace XT : Sl (Blk w8 gT 26 t.cells) := ⟨XT.out.below hb XT.out.lt⟩
  replace XA : Sl (Blk w8 gA 26 ca) := ⟨XA.out.below hb XA.out.lt⟩
  replace XB : Sl (Blk w8 gB 26 ca) := ⟨XB.out.below hb XB.out.lt⟩
  clear hb
  go_wp2_with ((with_reducible show wpList _ _ _ _ _ _); first
    | (refine wpList_alloc_new 11 rfl rfl 26 rfl TV0.cells alloc_temper ?_; rintro w9 gC zg zm zs zb; replace ORD : Sl (w.heap.size ≤ gT ∧ gT < gA ∧ gA < gB ∧ gB < gC) := ⟨by have := HB.out.size; have := ORD.out; have := XT.out.lt; have := XA.out.lt; have := XB.out.lt; omega⟩; replace HB : Sl (Below w.heap.size w w9) := ⟨below_mv HB.out zm (by have := HB.out.size; have := ORD.out; omega) HB.out.size⟩; replace XT : Sl (Blk w9 gT 26 t.cells) := ⟨XT.out.mv zm (by have := XT.out.lt; have := ORD.out; omega)⟩; replace XA : Sl (Blk w9 gA 26 ca) := ⟨XA.out.mv zm (by have := XA.out.lt; have := ORD.out; omega)⟩; replace XB : Sl (Blk w9 gB 26 ca) := ⟨XB.out.mv zm (by have := XB.out.lt; have := ORD.out; omega)⟩; have XC : Sl (Blk w9 gC 26 TV0.cells) := ⟨zb⟩; clear zg zm zs zb)
    | (refine wpList_store_whole rfl 26 (.tmp 11) (.tmp 30) rfl gC cb rfl rfl 26 TV0.cells XC.out HSZ.out.2.2.2.2.2 HSZ.out.2.1 HSZ.out.2.2.2.1 ?_; rintro w10 zm zs zb; replace HB : Sl (Below w.heap.size w w10) := ⟨below_mv HB.out zm (by have := HB.out.size; have := ORD.out; omega) HB.out.size⟩; replace XT : Sl (Blk w10 gT 26 t.cells) := ⟨XT.out.mv zm (by have := XT.out.lt; have := ORD.out; omega)⟩; replace XA : Sl (Blk w10 gA 26 ca) := ⟨XA.out.mv zm (by have := XA.out.lt; have := ORD.out; omega)⟩; replace XB : Sl (Blk w10 gB 26 ca) := ⟨XB.out.mv zm (by have := XB.out.lt; have := ORD.out; omega)⟩; replace XC : Sl (Blk w10 gC 26 cb) := ⟨zb⟩; clear zm zs zb))
  refine (H4.out _).mono ?_; rintro e w11 ⟨rfl, hb⟩
  replace HB : Sl (Below w.heap.size w w11) := ⟨HB.out.trans (hb.mono HB.out.size)⟩
  replace XT : Sl (Blk w11 gT 26 t.cells) := ⟨XT.out.below hb XT.out.lt⟩
  replace XA : Sl (Blk w11 gA 26 ca) := ⟨XA.out.below hb XA.out.lt⟩
  replace XB : Sl (Blk w11 gB 26 ca) := ⟨XB.out.below hb XB.out.lt⟩
  replace XC : Sl (Blk w11 gC 26 cb) := ⟨XC.out.below hb XC.out.lt⟩
  clear hb
  obtain ⟨a0, a1, a2, a3, a4⟩ := HA.out
  obtain ⟨b0, b1, b2, b3, b4⟩ := HB'.out
  have hag := Tryd.isAgg24
  clear HA HB'
  go_wp2_with ((with_reducible show wpList _ _ _ _ _ _); first
    | (refine wpList_alloc_new 13 rfl rfl 26 rfl TV0.cells alloc_temper ?_; rintro w12 gD zg zm zs zb; replace ORD : Sl (w.heap.size ≤ gT ∧ gT < gA ∧ gA < gB ∧ gB < gC ∧ gC < gD) := ⟨by have := HB.out.size; have := ORD.out; have := XT.out.lt; have := XA.out.lt; have := XB.out.lt; have := XC.out.lt; omega⟩; replace HB : Sl (Below w.heap.size w w12) := ⟨below_mv HB.out zm (by have := HB.out.size; have := ORD.out; omega) HB.out.size⟩; replace XT : Sl (Blk w12 gT 26 t.cells) := ⟨XT.out.mv zm (by have := XT.out.lt; have := ORD.out; omega)⟩; replace XA : Sl (Blk w12 gA 26 ca) := ⟨XA.out.mv zm (by have := XA.out.lt; have := ORD.out; omega)⟩; replace XB : Sl (Blk w12 gB 26 ca) := ⟨XB.out.mv zm (by have := XB.out.lt; have := ORD.out; omega)⟩; replace XC : Sl (Blk w12 gC 26 cb) := ⟨XC.out.mv zm (by have := XC.out.lt; have := ORD.out; omega)⟩; have XD : Sl (Blk w12 gD 26 TV0.cells) := ⟨zb⟩; clear zg zm zs zb)
    | (refine wpList_store_whole rfl 26 (.tmp 13) (.tmp 35) rfl gD cb rfl rfl 26 TV0.cells XD.out HSZ.out.2.2.2.2.2 HSZ.out.2.1 HSZ.out.2.2.2.1 ?_; rintro w13 zm zs zb; replace HB : Sl (Below w.heap.size w w13) := ⟨below_mv HB.out zm (by have := HB.out.size; have := ORD.out; omega) HB.out.size⟩; replace XT : Sl (Blk w13 gT 26 t.cells) := ⟨XT.out.mv zm (by have := XT.out.lt; have := ORD.out; omega)⟩; replace XA : Sl (Blk w13 gA 26 ca) := ⟨XA.out.mv zm (by have := XA.out.lt; have := ORD.out; omega)⟩; replace XB : Sl (Blk w13 gB 26 ca) := ⟨XB.out.mv zm (by have := XB.out.lt; have := ORD.out; omega)⟩; replace XC : Sl (Blk w13 gC 26 cb) := ⟨XC.out.mv zm (by have := XC.out.lt; have := ORD.out; omega)⟩; replace XD : Sl (Blk w13 gD 26 cb) := ⟨zb⟩; clear zm zs zb)
    | (refine wpList_load_whole rfl 26 (.tmp 7) rfl gA rfl 26 ca _ XA.out Tryd.underlying26 rfl HSZ.out.1 ?_)
    | (refine wpList_load_whole rfl 26 (.tmp 9) rfl gB rfl 26 ca _ XB.out Tryd.underlying26 rfl HSZ.out.1 ?_)
    | (refine wpList_load_wholew (by rfl) 26 (.tmp 11) rfl gC rfl 26 cb _ XC.out Tryd.underlying26 rfl HSZ.out.2.1 ?_)
    | (refine wpList_load_wholew (by rfl) 26 (.tmp 13) rfl gD rfl 26 cb _ XD.out Tryd.underlying26 rfl HSZ.out.2.1 ?_))
  refine (H5.out _ (HT.out.below HB.out)).mono ?_; rintro e w14 ⟨rfl, hb⟩
  replace HB : Sl (Below w.heap.size w w14) := ⟨HB.out.trans (hb.mono HB.out.size)⟩
  replace XT : Sl (Blk w14 gT 26 t.cells) := ⟨XT.out.below hb XT.out.lt⟩
  replace XA : Sl (Blk w14 gA 26 ca) := ⟨XA.out.below hb XA.out.lt⟩
  replace XB : Sl (Blk w14 gB 26 ca) := ⟨XB.out.below hb XB.out.lt⟩
  replace XC : Sl (Blk w14 gC 26 cb) := ⟨XC.out.below hb XC.out.lt⟩
  replace XD : Sl (Blk w14 gD 26 cb) := ⟨XD.out.below hb XD.out.lt⟩
  clear hb
  go_wp2_with fail
  go_ret
  exact ⟨rfl, HB.out⟩
end Go.Proofs.YtmcoadmnkelkkaaDoor
