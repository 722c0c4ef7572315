/- Package temper: fifths. (Printed by gentemq.py.) Package temper: notes, between. (Printed by gentems.py.) Package temper: between, third, fifth, Between, Triad. (Printed by gentemt.py.) -/
import Derived.Test.YtmcoadmnkelkkaaDoorTemR
namespace Go.Proofs.YtmcoadmnkelkkaaDoor
set_option linter.unusedSimpArgs false
open Go.RowKit
set_option linter.unusedVariables false

attribute [-simp] Tryd.isAgg34 Tryd.isAgg53 Tryd.isAgg24 Tryd.isAgg23
/-- the fifths of the first parts -/
noncomputable def TV.fA (t : TV) (k i : Nat) : RV := if i < k ∧ i ≠ t.tp.w then nr (t.tp.g i) t.tp.D else RVzero
theorem TV.fA_zero (t : TV) : flatR (t.fA 0) = flatR (fun _ => RVzero) := flatR_ext fun i _ => by unfold TV.fA; rw [if_neg (by omega)]
theorem TV.fA_wolf (t : TV) {k : Nat} (hk : k = t.tp.w) : flatR (t.fA (k + 1)) = flatR (t.fA k) := flatR_ext fun i _ => by
  unfold TV.fA
  by_cases h : i < k ∧ i ≠ t.tp.w
  · rw [if_pos h, if_pos ⟨by omega, h.2⟩]
  · rw [if_neg h, if_neg (fun h2 => h ⟨by omega, h2.2⟩)]
theorem TV.fA_succ (t : TV) {k : Nat} (hk : k ≠ t.tp.w) : flatR (fun j => if j = k then nr (t.tp.g k) t.tp.D else t.fA k j) = flatR (t.fA (k + 1)) := flatR_ext fun i _ => by
  show (if i = k then nr (t.tp.g k) t.tp.D else t.fA k i) = t.fA (k + 1) i
  unfold TV.fA
  by_cases h0 : i = k
  · subst h0
    rw [if_pos rfl, if_pos ⟨by omega, hk⟩]
  · rw [if_neg h0]
    by_cases h : i < k ∧ i ≠ t.tp.w
    · rw [if_pos h, if_pos ⟨by omega, h.2⟩]
    · rw [if_neg h, if_neg (fun h2 => h ⟨by omega, h2.2⟩)]
theorem TV.fA_end (t : TV) : flatR (fun j => if j = t.tp.w then nr (t.tp.rv 12) t.tp.D else t.fA 12 j) = flatR (fun k => nr (t.tp.f k) t.tp.D) := flatR_ext fun i hi => by
  show (if i = t.tp.w then nr (t.tp.rv 12) t.tp.D else t.fA 12 i) = nr (t.tp.f i) t.tp.D
  by_cases h : i = t.tp.w
  · rw [if_pos h, h, TP.f_w]
  · rw [if_neg h, TP.f_ne h]
    unfold TV.fA
    rw [if_pos ⟨hi, h⟩]
set_option maxHeartbeats 6400000 in
set_option maxRecDepth 100000 in
theorem fifths_any (t : TV) (hc : t.chk nameS = 0) (gT : Nat) (w : World) (hT : PrT w) (hB : Blk w gT 26 t.cells) :
    Calls Tryd.prog 39 #[.pointer (some ⟨gT, 0, none⟩)] w fun e w' => e = .returned (.agg (flatR fun k => nr (t.tp.f k) t.tp.D)) ∧ Below w.heap.size w w' := by
  have HB : Sl (Below w.heap.size w w) := ⟨Below.refl _ _⟩
  have HT : Sl _ := ⟨hT⟩
  have hTO := TV.tp_ok hc
  have HTO : Sl _ := ⟨hTO⟩
  have HCK : Sl _ := ⟨TV.chk_ok hc⟩
  have HPT : Sl (∀ k, k < 12 → powS (nr (cmv t.syn) 1) (t.num k) (t.den k) = (nr (t.tp.pt k) t.tp.D, 0)) := ⟨fun k hk => TV.part_pow hc hk⟩
  obtain ⟨W, hW⟩ : ∃ W : Nat, t.wolf = (W : Int) := ⟨t.wolf.toNat, by have := HCK.out.1; omega⟩
  have hWt : t.tp.w = W := by show t.wolf.toNat = W; rw [hW]; rfl
  have HWT : Sl _ := ⟨And.intro hW hWt⟩
  have XT : Sl (Blk w gT 26 t.cells) := ⟨hB⟩
  have ORD : Sl (gT < w.heap.size) := ⟨hB.lt⟩
  have HIX : Sl _ := ⟨fun (W : World) (k : Nat) (hk : k < 12) => idxT t W hk⟩
  have HW12 : W < 12 := by have := HCK.out.1; omega
  obtain ⟨syn, hsyn⟩ : ∃ b, t.syn = b := ⟨_, rfl⟩
  have HSY : Sl _ := ⟨hsyn⟩
  clear hT hTO hc hB hW hWt hsyn
  have HC1 : Sl (∀ W : World, PrT W → Calls Tryd.prog 38 #[.int .i64 531441, .int .i64 524288] W fun e w' => e = .returned (.agg (nr (cmv false) 1).cells) ∧ Below W.heap.size W w') := ⟨fun W h => whole_any _ _ _ W h (of_comma false)⟩
  have HC2 : Sl (∀ W : World, PrT W → Calls Tryd.prog 38 #[.int .i64 81, .int .i64 80] W fun e w' => e = .returned (.agg (nr (cmv true) 1).cells) ∧ Below W.heap.size W w') := ⟨fun W h => whole_any _ _ _ W h (of_comma true)⟩
  have HC3 : Sl (∀ W : World, PrT W → Calls Tryd.prog 38 #[.int .i64 128, .int .i64 1] W fun e w' => e = .returned (.agg (nr (t.tp.rv 0) t.tp.D).cells) ∧ Below W.heap.size W w') := ⟨fun W h => whole_any _ _ _ W h HTO.out.seven⟩
  have HC4 : Sl (∀ W : World, PrT W → Calls Tryd.prog 38 #[.int .i64 3, .int .i64 2] W fun e w' => e = .returned (.agg (nr (fun j => b32 j * t.tp.D) t.tp.D).cells) ∧ Below W.heap.size W w') := ⟨fun W h => whole_any _ _ _ W h (fif_up HTO.out.hD.1)⟩
  cases syn
  · go_enter Tryd.func39, Tryd.ntmps39
    go_wp2_with ((with_reducible show wpList _ _ _ _ _ _); first
      | (refine wpList_alloc_new 2 rfl rfl 53 rfl (flatR fun _ => RVzero) alloc_twelve ?_; rintro w1 gR zg zm zs zb; replace ORD : Sl (gT < w.heap.size ∧ w.heap.size ≤ gR) := ⟨by have := HB.out.size; have := ORD.out; have := XT.out.lt; omega⟩; replace HB : Sl (Below w.heap.size w w1) := ⟨below_mv HB.out zm (by have := HB.out.size; have := ORD.out; omega) HB.out.size⟩; replace XT : Sl (Blk w1 gT 26 t.cells) := ⟨XT.out.mv zm (by have := XT.out.lt; have := ORD.out; omega)⟩; have XR : Sl (Blk w1 gR 53 (flatR fun _ => RVzero)) := ⟨zb⟩; clear zg zm zs zb))
    refine (HC1.out _ (HT.out.below HB.out)).mono ?_; rintro e w2 ⟨rfl, hb⟩
    replace HB : Sl (Below w.heap.size w w2) := ⟨HB.out.trans (hb.mono HB.out.size)⟩
    replace XT : Sl (Blk w2 gT 26 t.cells) := ⟨XT.out.below hb XT.out.lt⟩
    replace XR : Sl (Blk w2 gR 53 (flatR fun _ => RVzero)) := ⟨XR.out.below hb XR.out.lt⟩
    clear hb
    go_wp2_with ((with_reducible show wpList _ _ _ _ _ _); first
      | (refine wpList_alloc_new 3 rfl rfl 34 rfl RVzero.cells alloc_ratio ?_; rintro w3 gC zg zm zs zb; replace ORD : Sl (gT < w.heap.size ∧ w.heap.size ≤ gR ∧ gR < gC) := ⟨by have := HB.out.size; have := ORD.out; have := XT.out.lt; have := XR.out.lt; omega⟩; replace HB : Sl (Below w.heap.size w w3) := ⟨below_mv HB.out zm (by have := HB.out.size; have := ORD.out; omega) HB.out.size⟩; replace XT : Sl (Blk w3 gT 26 t.cells) := ⟨XT.out.mv zm (by have := XT.out.lt; have := ORD.out; omega)⟩; replace XR : Sl (Blk w3 gR 53 (flatR fun _ => RVzero)) := ⟨XR.out.mv zm (by have := XR.out.lt; have := ORD.out; omega)⟩; have XC : Sl (Blk w3 gC 34 RVzero.cells) := ⟨zb⟩; clear zg zm zs zb)
      | (refine wpList_store_whole rfl 34 (.tmp 3) (.tmp 10) rfl gC (nr (cmv false) 1).cells rfl rfl 34 RVzero.cells XC.out rfl size_ratio (RV.cells_one _) ?_; rintro w4 zm zs zb; replace HB : Sl (Below w.heap.size w w4) := ⟨below_mv HB.out zm (by have := HB.out.size; have := ORD.out; omega) HB.out.size⟩; replace XT : Sl (Blk w4 gT 26 t.cells) := ⟨XT.out.mv zm (by have := XT.out.lt; have := ORD.out; omega)⟩; replace XR : Sl (Blk w4 gR 53 (flatR fun _ => RVzero)) := ⟨XR.out.mv zm (by have := XR.out.lt; have := ORD.out; omega)⟩; replace XC : Sl (Blk w4 gC 34 (nr (cmv false) 1).cells) := ⟨zb⟩; clear zm zs zb; have cs1 : w4.cell? ⟨gT, 1, none⟩ = some (.bool t.syn) := XT.out.cell 1; rw [HSY.out] at cs1)
      | (refine wpList_alloc_new 4 rfl rfl 53 rfl (flatR fun _ => RVzero) alloc_twelve ?_; rintro w5 gL zg zm zs zb; replace ORD : Sl (gT < w.heap.size ∧ w.heap.size ≤ gR ∧ gR < gC ∧ gC < gL) := ⟨by have := HB.out.size; have := ORD.out; have := XT.out.lt; have := XR.out.lt; have := XC.out.lt; omega⟩; replace HB : Sl (Below w.heap.size w w5) := ⟨below_mv HB.out zm (by have := HB.out.size; have := ORD.out; omega) HB.out.size⟩; replace XT : Sl (Blk w5 gT 26 t.cells) := ⟨XT.out.mv zm (by have := XT.out.lt; have := ORD.out; omega)⟩; replace XR : Sl (Blk w5 gR 53 (flatR fun _ => RVzero)) := ⟨XR.out.mv zm (by have := XR.out.lt; have := ORD.out; omega)⟩; replace XC : Sl (Blk w5 gC 34 (nr (cmv false) 1).cells) := ⟨XC.out.mv zm (by have := XC.out.lt; have := ORD.out; omega)⟩; have XL : Sl (Blk w5 gL 53 (flatR fun _ => RVzero)) := ⟨zb⟩; clear zg zm zs zb))
    refine (HC3.out _ (HT.out.below HB.out)).mono ?_; rintro e w6 ⟨rfl, hb⟩
    replace HB : Sl (Below w.heap.size w w6) := ⟨HB.out.trans (hb.mono HB.out.size)⟩
    replace XT : Sl (Blk w6 gT 26 t.cells) := ⟨XT.out.below hb XT.out.lt⟩
    replace XR : Sl (Blk w6 gR 53 (flatR fun _ => RVzero)) := ⟨XR.out.below hb XR.out.lt⟩
    replace XC : Sl (Blk w6 gC 34 (nr (cmv false) 1).cells) := ⟨XC.out.below hb XC.out.lt⟩
    replace XL : Sl (Blk w6 gL 53 (flatR fun _ => RVzero)) := ⟨XL.out.below hb XL.out.lt⟩
    clear hb
    go_wp2_with ((with_reducible show wpList _ _ _ _ _ _); first
      | (refine wpList_alloc_new 5 rfl rfl 34 rfl RVzero.cells alloc_ratio ?_; rintro w7 gN zg zm zs zb; replace ORD : Sl (gT < w.heap.size ∧ w.heap.size ≤ gR ∧ gR < gC ∧ gC < gL ∧ gL < gN) := ⟨by have := HB.out.size; have := ORD.out; have := XT.out.lt; have := XR.out.lt; have := XC.out.lt; have := XL.out.lt; omega⟩; replace HB : Sl (Below w.heap.size w w7) := ⟨below_mv HB.out zm (by have := HB.out.size; have := ORD.out; omega) HB.out.size⟩; replace XT : Sl (Blk w7 gT 26 t.cells) := ⟨XT.out.mv zm (by have := XT.out.lt; have := ORD.out; omega)⟩; replace XR : Sl (Blk w7 gR 53 (flatR fun _ => RVzero)) := ⟨XR.out.mv zm (by have := XR.out.lt; have := ORD.out; omega)⟩; replace XC : Sl (Blk w7 gC 34 (nr (cmv false) 1).cells) := ⟨XC.out.mv zm (by have := XC.out.lt; have := ORD.out; omega)⟩; replace XL : Sl (Blk w7 gL 53 (flatR fun _ => RVzero)) := ⟨XL.out.mv zm (by have := XL.out.lt; have := ORD.out; omega)⟩; have XN : Sl (Blk w7 gN 34 RVzero.cells) := ⟨zb⟩; clear zg zm zs zb)
      | (refine wpList_store_whole rfl 34 (.tmp 5) (.tmp 16) rfl gN (nr (t.tp.rv 0) t.tp.D).cells rfl rfl 34 RVzero.cells XN.out rfl size_ratio (RV.cells_one _) ?_; rintro w8 zm zs zb; replace HB : Sl (Below w.heap.size w w8) := ⟨below_mv HB.out zm (by have := HB.out.size; have := ORD.out; omega) HB.out.size⟩; replace XT : Sl (Blk w8 gT 26 t.cells) := ⟨XT.out.mv zm (by have := XT.out.lt; have := ORD.out; omega)⟩; replace XR : Sl (Blk w8 gR 53 (flatR fun _ => RVzero)) := ⟨XR.out.mv zm (by have := XR.out.lt; have := ORD.out; omega)⟩; replace XC : Sl (Blk w8 gC 34 (nr (cmv false) 1).cells) := ⟨XC.out.mv zm (by have := XC.out.lt; have := ORD.out; omega)⟩; replace XL : Sl (Blk w8 gL 53 (flatR fun _ => RVzero)) := ⟨XL.out.mv zm (by have := XL.out.lt; have := ORD.out; omega)⟩; replace XN : Sl (Blk w8 gN 34 (nr (t.tp.rv 0) t.tp.D).cells) := ⟨zb⟩; clear zm zs zb)
      | (refine wpList_load_part rfl 24 (.tmp 19) rfl gT (3) rfl 26 t.cells t.parts _ XT.out (parts_ext t) Tryd.underlying24 rfl (size_parts2 t) ?_))
    have ORD0 := ORD
    clear cs1
    go_loopw [21] (fun s21 wr => ∃ k : Nat, k ≤ 12 ∧ s21 = .int .i64 k ∧ Sl (Below w.heap.size w wr) ∧ Sl (Blk wr gT 26 t.cells) ∧ Sl (Blk wr gR 53 (flatR fun _ => RVzero)) ∧ Sl (Blk wr gC 34 (nr (cmv false) 1).cells) ∧ Sl (Blk wr gL 53 (flatR (t.fA k))) ∧ Sl (Blk wr gN 34 (nr (t.tp.rv k) t.tp.D).cells)) (fun s21 _ => 12 - (RowKit.intOf s21).toNat)
    case atStart => exact ⟨0, by decide, rfl, HB, XT, XR, XC, ⟨by rw [TV.fA_zero]; exact XL.out⟩, XN⟩
    case round =>
      clear HB XT XR XC XL XN
      obtain ⟨k, hk, rfl, HB, XT, XR, XC, XL, XN⟩ := hrel
      by_cases hk12 : k < 12
      · have hix := fun W : World => HIX.out W k hk12
        obtain ⟨n, hn⟩ : ∃ n, t.num k = n := ⟨_, rfl⟩
        obtain ⟨d, hd⟩ : ∃ d, t.den k = d := ⟨_, rfl⟩
        have hpt := HPT.out k hk12
        rw [hn, hd] at hix hpt
        rw [HSY.out] at hpt
        have HPW : Sl (∀ W : World, Calls Tryd.prog 50 #[.agg (nr (cmv false) 1).cells, .int .i64 n, .int .i64 d] W fun e w' => e = .returned (.tuple #[.agg (nr (t.tp.pt k) t.tp.D).cells, .int .i64 0]) ∧ Below W.heap.size W w') := ⟨fun W => by
          have := vPow_any (nr (cmv false) 1) n d W
          rw [hpt] at this
          exact this⟩
        clear hn hd hpt
        by_cases hkw : k = W
        · have hne : ((k : Int) != (W : Int)) = false := by rw [bne_eq_false_iff_eq]; omega
          have hkt : k = t.tp.w := hkw.trans HWT.out.2.symm
          have HKT : Sl _ := ⟨hkt⟩
          clear hkt hkw
          go_wp2_with ((with_reducible show wpList _ _ _ _ _ _); first
            | (refine wpList_alloc_new 7 rfl rfl 23 rfl #[.int .i64 0, .int .i64 0] alloc_part ?_; rintro w9 gP zg zm zs zb; replace ORD : Sl (gT < w.heap.size ∧ w.heap.size ≤ gR ∧ gR < gC ∧ gC < gL ∧ gL < gN ∧ gN < gP) := ⟨by have := HB.out.size; have := ORD.out; have := XT.out.lt; have := XR.out.lt; have := XC.out.lt; have := XL.out.lt; have := XN.out.lt; omega⟩; replace HB : Sl (Below w.heap.size w w9) := ⟨below_mv HB.out zm (by have := HB.out.size; have := ORD.out; omega) HB.out.size⟩; replace XT : Sl (Blk w9 gT 26 t.cells) := ⟨XT.out.mv zm (by have := XT.out.lt; have := ORD.out; omega)⟩; replace XR : Sl (Blk w9 gR 53 (flatR fun _ => RVzero)) := ⟨XR.out.mv zm (by have := XR.out.lt; have := ORD.out; omega)⟩; replace XC : Sl (Blk w9 gC 34 (nr (cmv false) 1).cells) := ⟨XC.out.mv zm (by have := XC.out.lt; have := ORD.out; omega)⟩; replace XL : Sl (Blk w9 gL 53 (flatR (t.fA k))) := ⟨XL.out.mv zm (by have := XL.out.lt; have := ORD.out; omega)⟩; replace XN : Sl (Blk w9 gN 34 (nr (t.tp.rv k) t.tp.D).cells) := ⟨XN.out.mv zm (by have := XN.out.lt; have := ORD.out; omega)⟩; have XP : Sl (Blk w9 gP 23 #[.int .i64 0, .int .i64 0]) := ⟨zb⟩; clear zg zm zs zb)
            | (refine wpList_store_whole rfl 23 (.tmp 7) (.tmp 24) rfl gP #[.int .i64 n, .int .i64 d] rfl rfl 23 #[.int .i64 0, .int .i64 0] XP.out rfl (size_part n d) (part_one n d) ?_; rintro w10 zm zs zb; replace HB : Sl (Below w.heap.size w w10) := ⟨below_mv HB.out zm (by have := HB.out.size; have := ORD.out; omega) HB.out.size⟩; replace XT : Sl (Blk w10 gT 26 t.cells) := ⟨XT.out.mv zm (by have := XT.out.lt; have := ORD.out; omega)⟩; replace XR : Sl (Blk w10 gR 53 (flatR fun _ => RVzero)) := ⟨XR.out.mv zm (by have := XR.out.lt; have := ORD.out; omega)⟩; replace XC : Sl (Blk w10 gC 34 (nr (cmv false) 1).cells) := ⟨XC.out.mv zm (by have := XC.out.lt; have := ORD.out; omega)⟩; replace XL : Sl (Blk w10 gL 53 (flatR (t.fA k))) := ⟨XL.out.mv zm (by have := XL.out.lt; have := ORD.out; omega)⟩; replace XN : Sl (Blk w10 gN 34 (nr (t.tp.rv k) t.tp.D).cells) := ⟨XN.out.mv zm (by have := XN.out.lt; have := ORD.out; omega)⟩; replace XP : Sl (Blk w10 gP 23 #[.int .i64 n, .int .i64 d]) := ⟨zb⟩; clear zm zs zb; have cs2 : w10.cell? ⟨gT, 2, none⟩ = some (.int .i64 (W : Int)) := by rw [XT.out.cell 2, t.cell2, HWT.out.1]))
          exact ⟨⟨k + 1, hk12, by go_num, HB, XT, XR, XC, ⟨by rw [TV.fA_wolf t HKT.out]; exact XL.out⟩, ⟨by rw [HKT.out, t.tp.rest_wolf, ← HKT.out]; exact XN.out⟩⟩, by simp [RowKit.intOf]; omega⟩
        · have hne : ((k : Int) != (W : Int)) = true := by rw [bne_iff_ne]; omega
          have hkt : k ≠ t.tp.w := fun h => hkw (h.trans HWT.out.2)
          have HKT : Sl _ := ⟨hkt⟩
          clear hkt hkw
          go_wp2_with ((with_reducible show wpList _ _ _ _ _ _); first
            | (refine wpList_alloc_new 7 rfl rfl 23 rfl #[.int .i64 0, .int .i64 0] alloc_part ?_; rintro w111 gP zg zm zs zb; replace ORD : Sl (gT < w.heap.size ∧ w.heap.size ≤ gR ∧ gR < gC ∧ gC < gL ∧ gL < gN ∧ gN < gP) := ⟨by have := HB.out.size; have := ORD.out; have := XT.out.lt; have := XR.out.lt; have := XC.out.lt; have := XL.out.lt; have := XN.out.lt; omega⟩; replace HB : Sl (Below w.heap.size w w111) := ⟨below_mv HB.out zm (by have := HB.out.size; have := ORD.out; omega) HB.out.size⟩; replace XT : Sl (Blk w111 gT 26 t.cells) := ⟨XT.out.mv zm (by have := XT.out.lt; have := ORD.out; omega)⟩; replace XR : Sl (Blk w111 gR 53 (flatR fun _ => RVzero)) := ⟨XR.out.mv zm (by have := XR.out.lt; have := ORD.out; omega)⟩; replace XC : Sl (Blk w111 gC 34 (nr (cmv false) 1).cells) := ⟨XC.out.mv zm (by have := XC.out.lt; have := ORD.out; omega)⟩; replace XL : Sl (Blk w111 gL 53 (flatR (t.fA k))) := ⟨XL.out.mv zm (by have := XL.out.lt; have := ORD.out; omega)⟩; replace XN : Sl (Blk w111 gN 34 (nr (t.tp.rv k) t.tp.D).cells) := ⟨XN.out.mv zm (by have := XN.out.lt; have := ORD.out; omega)⟩; have XP : Sl (Blk w111 gP 23 #[.int .i64 0, .int .i64 0]) := ⟨zb⟩; clear zg zm zs zb)
            | (refine wpList_store_whole rfl 23 (.tmp 7) (.tmp 24) rfl gP #[.int .i64 n, .int .i64 d] rfl rfl 23 #[.int .i64 0, .int .i64 0] XP.out rfl (size_part n d) (part_one n d) ?_; rintro w112 zm zs zb; replace HB : Sl (Below w.heap.size w w112) := ⟨below_mv HB.out zm (by have := HB.out.size; have := ORD.out; omega) HB.out.size⟩; replace XT : Sl (Blk w112 gT 26 t.cells) := ⟨XT.out.mv zm (by have := XT.out.lt; have := ORD.out; omega)⟩; replace XR : Sl (Blk w112 gR 53 (flatR fun _ => RVzero)) := ⟨XR.out.mv zm (by have := XR.out.lt; have := ORD.out; omega)⟩; replace XC : Sl (Blk w112 gC 34 (nr (cmv false) 1).cells) := ⟨XC.out.mv zm (by have := XC.out.lt; have := ORD.out; omega)⟩; replace XL : Sl (Blk w112 gL 53 (flatR (t.fA k))) := ⟨XL.out.mv zm (by have := XL.out.lt; have := ORD.out; omega)⟩; replace XN : Sl (Blk w112 gN 34 (nr (t.tp.rv k) t.tp.D).cells) := ⟨XN.out.mv zm (by have := XN.out.lt; have := ORD.out; omega)⟩; replace XP : Sl (Blk w112 gP 23 #[.int .i64 n, .int .i64 d]) := ⟨zb⟩; clear zm zs zb; have cs2 : w112.cell? ⟨gT, 2, none⟩ = some (.int .i64 (W : Int)) := (by rw [XT.out.cell 2, t.cell2, HWT.out.1]); have cp0 : w112.cell? ⟨gP, 0, none⟩ = some (.int .i64 n) := XP.out.cell 0; have cp1 : w112.cell? ⟨gP, 1, none⟩ = some (.int .i64 d) := XP.out.cell 1)
            | (refine wpList_load_whole rfl 34 (.tmp 3) rfl gC rfl 34 (nr (cmv false) 1).cells _ XC.out Tryd.underlying34 rfl size_ratio ?_))
          clear cs2 cp0 cp1
          refine (HPW.out _).mono ?_; rintro e w113 ⟨rfl, hb⟩
          replace HB : Sl (Below w.heap.size w w113) := ⟨HB.out.trans (hb.mono HB.out.size)⟩
          replace XT : Sl (Blk w113 gT 26 t.cells) := ⟨XT.out.below hb XT.out.lt⟩
          replace XR : Sl (Blk w113 gR 53 (flatR fun _ => RVzero)) := ⟨XR.out.below hb XR.out.lt⟩
          replace XC : Sl (Blk w113 gC 34 (nr (cmv false) 1).cells) := ⟨XC.out.below hb XC.out.lt⟩
          replace XL : Sl (Blk w113 gL 53 (flatR (t.fA k))) := ⟨XL.out.below hb XL.out.lt⟩
          replace XN : Sl (Blk w113 gN 34 (nr (t.tp.rv k) t.tp.D).cells) := ⟨XN.out.below hb XN.out.lt⟩
          replace XP : Sl (Blk w113 gP 23 #[.int .i64 n, .int .i64 d]) := ⟨XP.out.below hb XP.out.lt⟩
          clear hb
          go_wp2_with ((with_reducible show wpList _ _ _ _ _ _); first
            | (refine wpList_alloc_new 8 rfl rfl 34 rfl RVzero.cells alloc_ratio ?_; rintro w114 gQ zg zm zs zb; replace ORD : Sl (gT < w.heap.size ∧ w.heap.size ≤ gR ∧ gR < gC ∧ gC < gL ∧ gL < gN ∧ gN < gP ∧ gP < gQ) := ⟨by have := HB.out.size; have := ORD.out; have := XT.out.lt; have := XR.out.lt; have := XC.out.lt; have := XL.out.lt; have := XN.out.lt; have := XP.out.lt; omega⟩; replace HB : Sl (Below w.heap.size w w114) := ⟨below_mv HB.out zm (by have := HB.out.size; have := ORD.out; omega) HB.out.size⟩; replace XT : Sl (Blk w114 gT 26 t.cells) := ⟨XT.out.mv zm (by have := XT.out.lt; have := ORD.out; omega)⟩; replace XR : Sl (Blk w114 gR 53 (flatR fun _ => RVzero)) := ⟨XR.out.mv zm (by have := XR.out.lt; have := ORD.out; omega)⟩; replace XC : Sl (Blk w114 gC 34 (nr (cmv false) 1).cells) := ⟨XC.out.mv zm (by have := XC.out.lt; have := ORD.out; omega)⟩; replace XL : Sl (Blk w114 gL 53 (flatR (t.fA k))) := ⟨XL.out.mv zm (by have := XL.out.lt; have := ORD.out; omega)⟩; replace XN : Sl (Blk w114 gN 34 (nr (t.tp.rv k) t.tp.D).cells) := ⟨XN.out.mv zm (by have := XN.out.lt; have := ORD.out; omega)⟩; replace XP : Sl (Blk w114 gP 23 #[.int .i64 n, .int .i64 d]) := ⟨XP.out.mv zm (by have := XP.out.lt; have := ORD.out; omega)⟩; have XQ : Sl (Blk w114 gQ 34 RVzero.cells) := ⟨zb⟩; clear zg zm zs zb)
            | (refine wpList_store_whole rfl 34 (.tmp 8) (.tmp 38) rfl gQ (nr (t.tp.pt k) t.tp.D).cells rfl rfl 34 RVzero.cells XQ.out rfl size_ratio (RV.cells_one _) ?_; rintro w115 zm zs zb; replace HB : Sl (Below w.heap.size w w115) := ⟨below_mv HB.out zm (by have := HB.out.size; have := ORD.out; omega) HB.out.size⟩; replace XT : Sl (Blk w115 gT 26 t.cells) := ⟨XT.out.mv zm (by have := XT.out.lt; have := ORD.out; omega)⟩; replace XR : Sl (Blk w115 gR 53 (flatR fun _ => RVzero)) := ⟨XR.out.mv zm (by have := XR.out.lt; have := ORD.out; omega)⟩; replace XC : Sl (Blk w115 gC 34 (nr (cmv false) 1).cells) := ⟨XC.out.mv zm (by have := XC.out.lt; have := ORD.out; omega)⟩; replace XL : Sl (Blk w115 gL 53 (flatR (t.fA k))) := ⟨XL.out.mv zm (by have := XL.out.lt; have := ORD.out; omega)⟩; replace XN : Sl (Blk w115 gN 34 (nr (t.tp.rv k) t.tp.D).cells) := ⟨XN.out.mv zm (by have := XN.out.lt; have := ORD.out; omega)⟩; replace XP : Sl (Blk w115 gP 23 #[.int .i64 n, .int .i64 d]) := ⟨XP.out.mv zm (by have := XP.out.lt; have := ORD.out; omega)⟩; replace XQ : Sl (Blk w115 gQ 34 (nr (t.tp.pt k) t.tp.D).cells) := ⟨zb⟩; clear zm zs zb))
          have hk1 : (0 : Int) ≤ (k : Int) := by omega
          have hk2 : (k : Int) < 12 := by omega
          have HOV : Sl (∀ W : World, Calls Tryd.prog 42 #[.agg (nr (fun j => b32 j * t.tp.D) t.tp.D).cells, .agg (nr (t.tp.pt k) t.tp.D).cells] W fun e w' => e = .returned (.agg (nr (t.tp.g k) t.tp.D).cells) ∧ Below W.heap.size W w') := ⟨fun W => tover_any _ _ _ W (HTO.out.fifth_join hk12 HKT.out)⟩
          have HWH : Sl (∀ W : World, PrT W → Calls Tryd.prog 38 #[.int .i64 3, .int .i64 2] W fun e w' => e = .returned (.agg (nr (fun j => b32 j * t.tp.D) t.tp.D).cells) ∧ Below W.heap.size W w') := ⟨fun W h => HC4.out W h⟩
          have hm : Mv gL w115 w115.drew := Mv.drew _ _
          have hs : RowKit.Below w115.heap.size w115 w115.drew := below_drewN (Below.refl _ _) 1
          have HSW : Sl _ := ⟨hs⟩
          clear hs
          refine wp_region_held_drew (S := fun w' => Mv gL w115 w') (by kernel_rfl) hm (fun hHeld => ?_)
          clear hm
          refine wpAnyH_pure 0 (v := .int .i64 (k : Int)) rfl (by kernel_rfl) (by kernel_rfl) (by kernel_rfl) (fun _ _ _ h => h) rfl (fun _ => rfl) (by assumption) ?_
          simp only [Act.put, List.setIfInBounds_toArray, List.set_cons_zero, List.set_cons_succ]
          refine wpAnyH_load 2 34 (.tmp 8) rfl rfl rfl gQ (0) rfl (nr (t.tp.pt k) t.tp.D).cells _ (fun w' h => by
            have e := XQ.out.mv h (by have := ORD.out; omega)
            exact e.all) Tryd.underlying34 rfl size_ratio (by kernel_rfl) (by kernel_rfl) (by kernel_rfl) (fun _ _ _ h => h) (by assumption) ?_
          simp only [Act.put, List.setIfInBounds_toArray, List.set_cons_zero, List.set_cons_succ]
          refine wpAnyH_one 1 rfl (by kernel_rfl) rfl (fun K hK => ?_)
          go_simp
          go_at_call 38
          (with_reducible refine (HWH.out _ (HT.out.below (HB.out.trans (HSW.out.mono HB.out.size)))).mono ?_)
          rintro e z116 ⟨rfl, hb⟩
          replace HSW : Sl (RowKit.Below w115.heap.size w115 z116) := ⟨HSW.out.trans (hb.mono HSW.out.size)⟩
          refine hK.out _ _ (Mv.below HSW.out) (fun hHeld => ?_)
          clear hK K hb
          (try simp only [Act.put, List.setIfInBounds_toArray, List.set_cons_zero, List.set_cons_succ])
          refine wpAnyH_one 3 rfl (by kernel_rfl) rfl (fun K hK => ?_)
          go_simp
          go_at_call 42
          (with_reducible refine (HOV.out _).mono ?_)
          rintro e z117 ⟨rfl, hb⟩
          replace HSW : Sl (RowKit.Below w115.heap.size w115 z117) := ⟨HSW.out.trans (hb.mono HSW.out.size)⟩
          refine hK.out _ _ (Mv.below HSW.out) (fun hHeld => ?_)
          clear hK K hb
          (try simp only [Act.put, List.setIfInBounds_toArray, List.set_cons_zero, List.set_cons_succ])
          refine wpAnyH_pure 4 (v := .pointer (some ⟨gL, k * 7, none⟩)) rfl (by kernel_rfl) (by kernel_rfl) (by kernel_rfl) (fun _ _ _ h => h) rfl (fun _ => by go_simp) (by assumption) ?_
          simp only [Act.put, List.setIfInBounds_toArray, List.set_cons_zero, List.set_cons_succ]
          refine wpAnyH_one 5 rfl (by kernel_rfl) rfl (fun K hK => ?_)
          refine wp_store_part 34 (.tmp 44) (.tmp 43) rfl gL (k * 7) (nr (t.tp.g k) t.tp.D).cells rfl rfl 53 (flatR (t.fA k)) (flatR (t.fA (k + 1))) (XL.out.below HSW.out XL.out.lt) (by rw [flatR_size, RV.cells_size]; omega) ((putR _ _ hk12).trans (t.fA_succ HKT.out)) size_ratio (RV.cells_one _) ?_
          rintro w118 zm zs zb
          refine hK.out _ _ (Mv.trans (Mv.below HSW.out) zm) (fun hHeld => ?_)
          clear hK K
          simp only [Act.put, List.setIfInBounds_toArray, List.set_cons_zero, List.set_cons_succ]
          refine wpAnyH_done (by kernel_rfl) ?_ _
          replace HB : Sl (Below w.heap.size w w118) := ⟨below_mv HB.out hHeld (by have := HB.out.size; have := ORD.out; omega) HB.out.size⟩
          replace XT : Sl (Blk w118 gT 26 t.cells) := ⟨XT.out.mv hHeld (by have := XT.out.lt; have := ORD.out; omega)⟩
          replace XR : Sl (Blk w118 gR 53 (flatR fun _ => RVzero)) := ⟨XR.out.mv hHeld (by have := XR.out.lt; have := ORD.out; omega)⟩
          replace XC : Sl (Blk w118 gC 34 (nr (cmv false) 1).cells) := ⟨XC.out.mv hHeld (by have := XC.out.lt; have := ORD.out; omega)⟩
          replace XN : Sl (Blk w118 gN 34 (nr (t.tp.rv k) t.tp.D).cells) := ⟨XN.out.mv hHeld (by have := XN.out.lt; have := ORD.out; omega)⟩
          replace XP : Sl (Blk w118 gP 23 #[.int .i64 n, .int .i64 d]) := ⟨XP.out.mv hHeld (by have := XP.out.lt; have := ORD.out; omega)⟩
          replace XQ : Sl (Blk w118 gQ 34 (nr (t.tp.pt k) t.tp.D).cells) := ⟨XQ.out.mv hHeld (by have := XQ.out.lt; have := ORD.out; omega)⟩
          replace XL : Sl (Blk w118 gL 53 (flatR (t.fA (k + 1)))) := ⟨zb⟩
          clear zm zs zb HSW; (try clear hHeld)
          go_wp2_with fail
          have hgk : t.fA (k + 1) k = (nr (t.tp.g k) t.tp.D) := by unfold TV.fA; rw [if_pos ⟨by omega, HKT.out⟩]
          have HGJ : Sl _ := ⟨hgk⟩
          clear hgk
          have HOR : Sl (∀ W : World, Calls Tryd.prog 42 #[.agg (nr (t.tp.rv k) t.tp.D).cells, .agg (nr (t.tp.g k) t.tp.D).cells] W fun e w' => e = .returned (.agg (nr (t.tp.rv (k + 1)) t.tp.D).cells) ∧ Below W.heap.size W w') := ⟨fun W => tover_any _ _ _ W (HTO.out.rest_join hk12)⟩
          have hm : Mv gN w118 w118.drew := Mv.drew _ _
          have hs : RowKit.Below w118.heap.size w118 w118.drew := below_drewN (Below.refl _ _) 1
          have HSW : Sl _ := ⟨hs⟩
          clear hs
          refine wp_region_held_drew (S := fun w' => Mv gN w118 w') (by kernel_rfl) hm (fun hHeld => ?_)
          clear hm
          refine wpAnyH_pure 1 (v := .int .i64 (k : Int)) rfl (by kernel_rfl) (by kernel_rfl) (by kernel_rfl) (fun _ _ _ h => h) rfl (fun _ => rfl) (by assumption) ?_
          simp only [Act.put, List.setIfInBounds_toArray, List.set_cons_zero, List.set_cons_succ]
          refine wpAnyH_pure 2 (v := .pointer (some ⟨gL, k * 7, none⟩)) rfl (by kernel_rfl) (by kernel_rfl) (by kernel_rfl) (fun _ _ _ h => h) rfl (fun _ => by go_simp) (by assumption) ?_
          simp only [Act.put, List.setIfInBounds_toArray, List.set_cons_zero, List.set_cons_succ]
          refine wpAnyH_load 3 34 (.tmp 47) rfl rfl rfl gL (k * 7) rfl (nr (t.tp.g k) t.tp.D).cells _ (fun w' h => by
            have e := XL.out.mv h (by have := ORD.out; omega)
            have e2 := e.atR hk12
            rw [HGJ.out] at e2
            exact e2) Tryd.underlying34 rfl size_ratio (by kernel_rfl) (by kernel_rfl) (by kernel_rfl) (fun _ _ _ h => h) (by assumption) ?_
          simp only [Act.put, List.setIfInBounds_toArray, List.set_cons_zero, List.set_cons_succ]
          refine wpAnyH_one 0 rfl (by kernel_rfl) rfl (fun K hK => ?_)
          refine wp_load_all 34 (.tmp 5) rfl gN rfl 34 (nr (t.tp.rv k) t.tp.D).cells _ (XN.out.below HSW.out XN.out.lt) Tryd.underlying34 rfl size_ratio ?_
          refine hK.out _ _ (Mv.below HSW.out) (fun hHeld => ?_)
          clear hK K
          simp only [Act.put, List.setIfInBounds_toArray, List.set_cons_zero, List.set_cons_succ]
          refine wpAnyH_one 4 rfl (by kernel_rfl) rfl (fun K hK => ?_)
          go_simp
          go_at_call 42
          (with_reducible refine (HOR.out _).mono ?_)
          rintro e z119 ⟨rfl, hb⟩
          replace HSW : Sl (RowKit.Below w118.heap.size w118 z119) := ⟨HSW.out.trans (hb.mono HSW.out.size)⟩
          refine hK.out _ _ (Mv.below HSW.out) (fun hHeld => ?_)
          clear hK K hb
          (try simp only [Act.put, List.setIfInBounds_toArray, List.set_cons_zero, List.set_cons_succ])
          refine wpAnyH_one 5 rfl (by kernel_rfl) rfl (fun K hK => ?_)
          refine wp_store_part 34 (.tmp 5) (.tmp 49) rfl gN (0) (nr (t.tp.rv (k + 1)) t.tp.D).cells rfl rfl 34 (nr (t.tp.rv k) t.tp.D).cells (nr (t.tp.rv (k + 1)) t.tp.D).cells (XN.out.below HSW.out XN.out.lt) (by rw [RV.cells_size, RV.cells_size]; omega) (putA_all _ _ rfl) size_ratio (RV.cells_one _) ?_
          rintro w120 zm zs zb
          refine hK.out _ _ (Mv.trans (Mv.below HSW.out) zm) (fun hHeld => ?_)
          clear hK K
          simp only [Act.put, List.setIfInBounds_toArray, List.set_cons_zero, List.set_cons_succ]
          refine wpAnyH_done (by kernel_rfl) ?_ _
          replace HB : Sl (Below w.heap.size w w120) := ⟨below_mv HB.out hHeld (by have := HB.out.size; have := ORD.out; omega) HB.out.size⟩
          replace XT : Sl (Blk w120 gT 26 t.cells) := ⟨XT.out.mv hHeld (by have := XT.out.lt; have := ORD.out; omega)⟩
          replace XR : Sl (Blk w120 gR 53 (flatR fun _ => RVzero)) := ⟨XR.out.mv hHeld (by have := XR.out.lt; have := ORD.out; omega)⟩
          replace XC : Sl (Blk w120 gC 34 (nr (cmv false) 1).cells) := ⟨XC.out.mv hHeld (by have := XC.out.lt; have := ORD.out; omega)⟩
          replace XL : Sl (Blk w120 gL 53 (flatR (t.fA (k + 1)))) := ⟨XL.out.mv hHeld (by have := XL.out.lt; have := ORD.out; omega)⟩
          replace XP : Sl (Blk w120 gP 23 #[.int .i64 n, .int .i64 d]) := ⟨XP.out.mv hHeld (by have := XP.out.lt; have := ORD.out; omega)⟩
          replace XQ : Sl (Blk w120 gQ 34 (nr (t.tp.pt k) t.tp.D).cells) := ⟨XQ.out.mv hHeld (by have := XQ.out.lt; have := ORD.out; omega)⟩
          replace XN : Sl (Blk w120 gN 34 (nr (t.tp.rv (k + 1)) t.tp.D).cells) := ⟨zb⟩
          clear zm zs zb HSW; (try clear hHeld)
          go_wp2_with fail
          exact ⟨⟨k + 1, hk12, by go_num, HB, XT, XR, XC, XL, XN⟩, by simp [RowKit.intOf]; omega⟩
      · obtain rfl : k = 12 := by omega
        clear hk12 hk
        go_wp2_with fail
        have hw1 : (0 : Int) ≤ (W : Int) := by omega
        have hw2 : (W : Int) < 12 := by omega
        have hcw : ∀ w' : World, Blk w' gT 26 t.cells → w'.cell? ⟨gT, 2, none⟩ = some (.int .i64 (W : Int)) := fun w' h => by rw [h.cell 2, t.cell2, HWT.out.1]
        have HCW : Sl _ := ⟨hcw⟩
        clear hcw
        have hput : putA (flatR (t.fA 12)) (W * 7) (nr (t.tp.rv 12) t.tp.D).cells.toList = flatR (fun k => nr (t.tp.f k) t.tp.D) := by rw [putR _ _ HW12, ← HWT.out.2]; exact t.fA_end
        have HPU : Sl _ := ⟨hput⟩
        clear hput
        have hm : Mv gL wr wr.drew := Mv.drew _ _
        have hs : RowKit.Below wr.heap.size wr wr.drew := below_drewN (Below.refl _ _) 1
        have HSW : Sl _ := ⟨hs⟩
        clear hs
        refine wp_region_held_drew (S := fun w' => Mv gL wr w') (by kernel_rfl) hm (fun hHeld => ?_)
        clear hm
        refine wpAnyH_pure 0 (v := .pointer (some ⟨gT, 0, none⟩)) rfl (by kernel_rfl) (by kernel_rfl) (by kernel_rfl) (fun _ _ _ h => h) rfl (fun _ => rfl) (by assumption) ?_
        simp only [Act.put, List.setIfInBounds_toArray, List.set_cons_zero, List.set_cons_succ]
        refine wpAnyH_pure 1 (v := .pointer (some ⟨gT, 0, none⟩)) rfl (by kernel_rfl) (by kernel_rfl) (by kernel_rfl) (fun _ _ _ h => h) rfl (fun _ => rfl) (by assumption) ?_
        simp only [Act.put, List.setIfInBounds_toArray, List.set_cons_zero, List.set_cons_succ]
        refine wpAnyH_pure 2 (v := .pointer (some ⟨gT, 2, none⟩)) rfl (by kernel_rfl) (by kernel_rfl) (by kernel_rfl) (fun _ _ _ h => h) rfl (fun _ => by go_simp) (by assumption) ?_
        simp only [Act.put, List.setIfInBounds_toArray, List.set_cons_zero, List.set_cons_succ]
        refine wpAnyH_cell 3 (v := .int .i64 (W : Int)) rfl rfl (fun w' h => by
          have e := HCW.out _ (XT.out.mv h (by have := ORD.out; omega))
          go_simp) (by kernel_rfl) (by kernel_rfl) (by kernel_rfl) (fun _ _ _ h => h) (by assumption) ?_
        simp only [Act.put, List.setIfInBounds_toArray, List.set_cons_zero, List.set_cons_succ]
        refine wpAnyH_load 4 34 (.tmp 5) rfl rfl rfl gN (0) rfl (nr (t.tp.rv 12) t.tp.D).cells _ (fun w' h => by
          have e := XN.out.mv h (by have := ORD.out; omega)
          exact e.all) Tryd.underlying34 rfl size_ratio (by kernel_rfl) (by kernel_rfl) (by kernel_rfl) (fun _ _ _ h => h) (by assumption) ?_
        simp only [Act.put, List.setIfInBounds_toArray, List.set_cons_zero, List.set_cons_succ]
        refine wpAnyH_pure 5 (v := .pointer (some ⟨gL, W * 7, none⟩)) rfl (by kernel_rfl) (by kernel_rfl) (by kernel_rfl) (fun _ _ _ h => h) rfl (fun _ => by go_simp) (by assumption) ?_
        simp only [Act.put, List.setIfInBounds_toArray, List.set_cons_zero, List.set_cons_succ]
        refine wpAnyH_one 6 rfl (by kernel_rfl) rfl (fun K hK => ?_)
        refine wp_store_part 34 (.tmp 56) (.tmp 55) rfl gL (W * 7) (nr (t.tp.rv 12) t.tp.D).cells rfl rfl 53 (flatR (t.fA 12)) (flatR fun k => nr (t.tp.f k) t.tp.D) (XL.out.below HSW.out XL.out.lt) (by rw [flatR_size, RV.cells_size]; omega) HPU.out size_ratio (RV.cells_one _) ?_
        rintro w121 zm zs zb
        refine hK.out _ _ (Mv.trans (Mv.below HSW.out) zm) (fun hHeld => ?_)
        clear hK K
        simp only [Act.put, List.setIfInBounds_toArray, List.set_cons_zero, List.set_cons_succ]
        refine wpAnyH_done (by kernel_rfl) ?_ _
        replace HB : Sl (Below w.heap.size w w121) := ⟨below_mv HB.out hHeld (by have := HB.out.size; have := ORD.out; omega) HB.out.size⟩
        replace XT : Sl (Blk w121 gT 26 t.cells) := ⟨XT.out.mv hHeld (by have := XT.out.lt; have := ORD.out; omega)⟩
        replace XR : Sl (Blk w121 gR 53 (flatR fun _ => RVzero)) := ⟨XR.out.mv hHeld (by have := XR.out.lt; have := ORD.out; omega)⟩
        replace XC : Sl (Blk w121 gC 34 (nr (cmv false) 1).cells) := ⟨XC.out.mv hHeld (by have := XC.out.lt; have := ORD.out; omega)⟩
        replace XN : Sl (Blk w121 gN 34 (nr (t.tp.rv 12) t.tp.D).cells) := ⟨XN.out.mv hHeld (by have := XN.out.lt; have := ORD.out; omega)⟩
        replace XL : Sl (Blk w121 gL 53 (flatR fun k => nr (t.tp.f k) t.tp.D)) := ⟨zb⟩
        clear zm zs zb HSW; (try clear hHeld)
        go_wp2_with ((with_reducible show wpList _ _ _ _ _ _); first
          | (refine wpList_load_whole rfl 53 (.tmp 4) rfl gL rfl 53 (flatR fun k => nr (t.tp.f k) t.tp.D) _ XL.out Tryd.underlying53 rfl (size_twelve _) ?_)
          | (refine wpList_store_whole rfl 53 (.tmp 2) (.tmp 57) rfl gR (flatR fun k => nr (t.tp.f k) t.tp.D) rfl rfl 53 (flatR fun _ => RVzero) XR.out (by rw [flatR_size, flatR_size]) (size_twelve _) (flatR_one _) ?_; rintro w122 zm zs zb; replace HB : Sl (Below w.heap.size w w122) := ⟨below_mv HB.out zm (by have := HB.out.size; have := ORD.out; omega) HB.out.size⟩; replace XT : Sl (Blk w122 gT 26 t.cells) := ⟨XT.out.mv zm (by have := XT.out.lt; have := ORD.out; omega)⟩; replace XC : Sl (Blk w122 gC 34 (nr (cmv false) 1).cells) := ⟨XC.out.mv zm (by have := XC.out.lt; have := ORD.out; omega)⟩; replace XL : Sl (Blk w122 gL 53 (flatR fun k => nr (t.tp.f k) t.tp.D)) := ⟨XL.out.mv zm (by have := XL.out.lt; have := ORD.out; omega)⟩; replace XN : Sl (Blk w122 gN 34 (nr (t.tp.rv 12) t.tp.D).cells) := ⟨XN.out.mv zm (by have := XN.out.lt; have := ORD.out; omega)⟩; replace XR : Sl (Blk w122 gR 53 (flatR fun k => nr (t.tp.f k) t.tp.D)) := ⟨zb⟩; clear zm zs zb))
        refine bodyPost_ret (results_cell_row rfl _ _ gR _ _ _ _ rfl XR.out Tryd.underlying53 rfl (size_twelve _)) rfl ?_
        exact ⟨rfl, HB.out⟩
  · go_enter Tryd.func39, Tryd.ntmps39
    go_wp2_with ((with_reducible show wpList _ _ _ _ _ _); first
      | (refine wpList_alloc_new 2 rfl rfl 53 rfl (flatR fun _ => RVzero) alloc_twelve ?_; rintro w201 gR zg zm zs zb; replace ORD : Sl (gT < w.heap.size ∧ w.heap.size ≤ gR) := ⟨by have := HB.out.size; have := ORD.out; have := XT.out.lt; omega⟩; replace HB : Sl (Below w.heap.size w w201) := ⟨below_mv HB.out zm (by have := HB.out.size; have := ORD.out; omega) HB.out.size⟩; replace XT : Sl (Blk w201 gT 26 t.cells) := ⟨XT.out.mv zm (by have := XT.out.lt; have := ORD.out; omega)⟩; have XR : Sl (Blk w201 gR 53 (flatR fun _ => RVzero)) := ⟨zb⟩; clear zg zm zs zb))
    refine (HC1.out _ (HT.out.below HB.out)).mono ?_; rintro e w202 ⟨rfl, hb⟩
    replace HB : Sl (Below w.heap.size w w202) := ⟨HB.out.trans (hb.mono HB.out.size)⟩
    replace XT : Sl (Blk w202 gT 26 t.cells) := ⟨XT.out.below hb XT.out.lt⟩
    replace XR : Sl (Blk w202 gR 53 (flatR fun _ => RVzero)) := ⟨XR.out.below hb XR.out.lt⟩
    clear hb
    go_wp2_with ((with_reducible show wpList _ _ _ _ _ _); first
      | (refine wpList_alloc_new 3 rfl rfl 34 rfl RVzero.cells alloc_ratio ?_; rintro w203 gC zg zm zs zb; replace ORD : Sl (gT < w.heap.size ∧ w.heap.size ≤ gR ∧ gR < gC) := ⟨by have := HB.out.size; have := ORD.out; have := XT.out.lt; have := XR.out.lt; omega⟩; replace HB : Sl (Below w.heap.size w w203) := ⟨below_mv HB.out zm (by have := HB.out.size; have := ORD.out; omega) HB.out.size⟩; replace XT : Sl (Blk w203 gT 26 t.cells) := ⟨XT.out.mv zm (by have := XT.out.lt; have := ORD.out; omega)⟩; replace XR : Sl (Blk w203 gR 53 (flatR fun _ => RVzero)) := ⟨XR.out.mv zm (by have := XR.out.lt; have := ORD.out; omega)⟩; have XC : Sl (Blk w203 gC 34 RVzero.cells) := ⟨zb⟩; clear zg zm zs zb)
      | (refine wpList_store_whole rfl 34 (.tmp 3) (.tmp 10) rfl gC (nr (cmv false) 1).cells rfl rfl 34 RVzero.cells XC.out rfl size_ratio (RV.cells_one _) ?_; rintro w204 zm zs zb; replace HB : Sl (Below w.heap.size w w204) := ⟨below_mv HB.out zm (by have := HB.out.size; have := ORD.out; omega) HB.out.size⟩; replace XT : Sl (Blk w204 gT 26 t.cells) := ⟨XT.out.mv zm (by have := XT.out.lt; have := ORD.out; omega)⟩; replace XR : Sl (Blk w204 gR 53 (flatR fun _ => RVzero)) := ⟨XR.out.mv zm (by have := XR.out.lt; have := ORD.out; omega)⟩; replace XC : Sl (Blk w204 gC 34 (nr (cmv false) 1).cells) := ⟨zb⟩; clear zm zs zb; have cs1 : w204.cell? ⟨gT, 1, none⟩ = some (.bool t.syn) := XT.out.cell 1; rw [HSY.out] at cs1))
    refine (HC2.out _ (HT.out.below HB.out)).mono ?_; rintro e w205 ⟨rfl, hb⟩
    replace HB : Sl (Below w.heap.size w w205) := ⟨HB.out.trans (hb.mono HB.out.size)⟩
    replace XT : Sl (Blk w205 gT 26 t.cells) := ⟨XT.out.below hb XT.out.lt⟩
    replace XR : Sl (Blk w205 gR 53 (flatR fun _ => RVzero)) := ⟨XR.out.below hb XR.out.lt⟩
    replace XC : Sl (Blk w205 gC 34 (nr (cmv false) 1).cells) := ⟨XC.out.below hb XC.out.lt⟩
    clear hb
    go_wp2_with ((with_reducible show wpList _ _ _ _ _ _); first
      | (refine wpList_store_whole rfl 34 (.tmp 3) (.tmp 15) rfl gC (nr (cmv true) 1).cells rfl rfl 34 (nr (cmv false) 1).cells XC.out rfl size_ratio (RV.cells_one _) ?_; rintro w206 zm zs zb; replace HB : Sl (Below w.heap.size w w206) := ⟨below_mv HB.out zm (by have := HB.out.size; have := ORD.out; omega) HB.out.size⟩; replace XT : Sl (Blk w206 gT 26 t.cells) := ⟨XT.out.mv zm (by have := XT.out.lt; have := ORD.out; omega)⟩; replace XR : Sl (Blk w206 gR 53 (flatR fun _ => RVzero)) := ⟨XR.out.mv zm (by have := XR.out.lt; have := ORD.out; omega)⟩; replace XC : Sl (Blk w206 gC 34 (nr (cmv true) 1).cells) := ⟨zb⟩; clear zm zs zb)
      | (refine wpList_alloc_new 4 rfl rfl 53 rfl (flatR fun _ => RVzero) alloc_twelve ?_; rintro w207 gL zg zm zs zb; replace ORD : Sl (gT < w.heap.size ∧ w.heap.size ≤ gR ∧ gR < gC ∧ gC < gL) := ⟨by have := HB.out.size; have := ORD.out; have := XT.out.lt; have := XR.out.lt; have := XC.out.lt; omega⟩; replace HB : Sl (Below w.heap.size w w207) := ⟨below_mv HB.out zm (by have := HB.out.size; have := ORD.out; omega) HB.out.size⟩; replace XT : Sl (Blk w207 gT 26 t.cells) := ⟨XT.out.mv zm (by have := XT.out.lt; have := ORD.out; omega)⟩; replace XR : Sl (Blk w207 gR 53 (flatR fun _ => RVzero)) := ⟨XR.out.mv zm (by have := XR.out.lt; have := ORD.out; omega)⟩; replace XC : Sl (Blk w207 gC 34 (nr (cmv true) 1).cells) := ⟨XC.out.mv zm (by have := XC.out.lt; have := ORD.out; omega)⟩; have XL : Sl (Blk w207 gL 53 (flatR fun _ => RVzero)) := ⟨zb⟩; clear zg zm zs zb))
    refine (HC3.out _ (HT.out.below HB.out)).mono ?_; rintro e w208 ⟨rfl, hb⟩
    replace HB : Sl (Below w.heap.size w w208) := ⟨HB.out.trans (hb.mono HB.out.size)⟩
    replace XT : Sl (Blk w208 gT 26 t.cells) := ⟨XT.out.below hb XT.out.lt⟩
    replace XR : Sl (Blk w208 gR 53 (flatR fun _ => RVzero)) := ⟨XR.out.below hb XR.out.lt⟩
    replace XC : Sl (Blk w208 gC 34 (nr (cmv true) 1).cells) := ⟨XC.out.below hb XC.out.lt⟩
    replace XL : Sl (Blk w208 gL 53 (flatR fun _ => RVzero)) := ⟨XL.out.below hb XL.out.lt⟩
    clear hb
    go_wp2_with ((with_reducible show wpList _ _ _ _ _ _); first
      | (refine wpList_alloc_new 5 rfl rfl 34 rfl RVzero.cells alloc_ratio ?_; rintro w209 gN zg zm zs zb; replace ORD : Sl (gT < w.heap.size ∧ w.heap.size ≤ gR ∧ gR < gC ∧ gC < gL ∧ gL < gN) := ⟨by have := HB.out.size; have := ORD.out; have := XT.out.lt; have := XR.out.lt; have := XC.out.lt; have := XL.out.lt; omega⟩; replace HB : Sl (Below w.heap.size w w209) := ⟨below_mv HB.out zm (by have := HB.out.size; have := ORD.out; omega) HB.out.size⟩; replace XT : Sl (Blk w209 gT 26 t.cells) := ⟨XT.out.mv zm (by have := XT.out.lt; have := ORD.out; omega)⟩; replace XR : Sl (Blk w209 gR 53 (flatR fun _ => RVzero)) := ⟨XR.out.mv zm (by have := XR.out.lt; have := ORD.out; omega)⟩; replace XC : Sl (Blk w209 gC 34 (nr (cmv true) 1).cells) := ⟨XC.out.mv zm (by have := XC.out.lt; have := ORD.out; omega)⟩; replace XL : Sl (Blk w209 gL 53 (flatR fun _ => RVzero)) := ⟨XL.out.mv zm (by have := XL.out.lt; have := ORD.out; omega)⟩; have XN : Sl (Blk w209 gN 34 RVzero.cells) := ⟨zb⟩; clear zg zm zs zb)
      | (refine wpList_store_whole rfl 34 (.tmp 5) (.tmp 16) rfl gN (nr (t.tp.rv 0) t.tp.D).cells rfl rfl 34 RVzero.cells XN.out rfl size_ratio (RV.cells_one _) ?_; rintro w210 zm zs zb; replace HB : Sl (Below w.heap.size w w210) := ⟨below_mv HB.out zm (by have := HB.out.size; have := ORD.out; omega) HB.out.size⟩; replace XT : Sl (Blk w210 gT 26 t.cells) := ⟨XT.out.mv zm (by have := XT.out.lt; have := ORD.out; omega)⟩; replace XR : Sl (Blk w210 gR 53 (flatR fun _ => RVzero)) := ⟨XR.out.mv zm (by have := XR.out.lt; have := ORD.out; omega)⟩; replace XC : Sl (Blk w210 gC 34 (nr (cmv true) 1).cells) := ⟨XC.out.mv zm (by have := XC.out.lt; have := ORD.out; omega)⟩; replace XL : Sl (Blk w210 gL 53 (flatR fun _ => RVzero)) := ⟨XL.out.mv zm (by have := XL.out.lt; have := ORD.out; omega)⟩; replace XN : Sl (Blk w210 gN 34 (nr (t.tp.rv 0) t.tp.D).cells) := ⟨zb⟩; clear zm zs zb)
      | (refine wpList_load_part rfl 24 (.tmp 19) rfl gT (3) rfl 26 t.cells t.parts _ XT.out (parts_ext t) Tryd.underlying24 rfl (size_parts2 t) ?_))
    have ORD0 := ORD
    clear cs1
    go_loopw [21] (fun s21 wr => ∃ k : Nat, k ≤ 12 ∧ s21 = .int .i64 k ∧ Sl (Below w.heap.size w wr) ∧ Sl (Blk wr gT 26 t.cells) ∧ Sl (Blk wr gR 53 (flatR fun _ => RVzero)) ∧ Sl (Blk wr gC 34 (nr (cmv true) 1).cells) ∧ Sl (Blk wr gL 53 (flatR (t.fA k))) ∧ Sl (Blk wr gN 34 (nr (t.tp.rv k) t.tp.D).cells)) (fun s21 _ => 12 - (RowKit.intOf s21).toNat)
    case atStart => exact ⟨0, by decide, rfl, HB, XT, XR, XC, ⟨by rw [TV.fA_zero]; exact XL.out⟩, XN⟩
    case round =>
      clear HB XT XR XC XL XN
      obtain ⟨k, hk, rfl, HB, XT, XR, XC, XL, XN⟩ := hrel
      by_cases hk12 : k < 12
      · have hix := fun W : World => HIX.out W k hk12
        obtain ⟨n, hn⟩ : ∃ n, t.num k = n := ⟨_, rfl⟩
        obtain ⟨d, hd⟩ : ∃ d, t.den k = d := ⟨_, rfl⟩
        have hpt := HPT.out k hk12
        rw [hn, hd] at hix hpt
        rw [HSY.out] at hpt
        have HPW : Sl (∀ W : World, Calls Tryd.prog 50 #[.agg (nr (cmv true) 1).cells, .int .i64 n, .int .i64 d] W fun e w' => e = .returned (.tuple #[.agg (nr (t.tp.pt k) t.tp.D).cells, .int .i64 0]) ∧ Below W.heap.size W w') := ⟨fun W => by
          have := vPow_any (nr (cmv true) 1) n d W
          rw [hpt] at this
          exact this⟩
        clear hn hd hpt
        by_cases hkw : k = W
        · have hne : ((k : Int) != (W : Int)) = false := by rw [bne_eq_false_iff_eq]; omega
          have hkt : k = t.tp.w := hkw.trans HWT.out.2.symm
          have HKT : Sl _ := ⟨hkt⟩
          clear hkt hkw
          go_wp2_with ((with_reducible show wpList _ _ _ _ _ _); first
            | (refine wpList_alloc_new 7 rfl rfl 23 rfl #[.int .i64 0, .int .i64 0] alloc_part ?_; rintro w211 gP zg zm zs zb; replace ORD : Sl (gT < w.heap.size ∧ w.heap.size ≤ gR ∧ gR < gC ∧ gC < gL ∧ gL < gN ∧ gN < gP) := ⟨by have := HB.out.size; have := ORD.out; have := XT.out.lt; have := XR.out.lt; have := XC.out.lt; have := XL.out.lt; have := XN.out.lt; omega⟩; replace HB : Sl (Below w.heap.size w w211) := ⟨below_mv HB.out zm (by have := HB.out.size; have := ORD.out; omega) HB.out.size⟩; replace XT : Sl (Blk w211 gT 26 t.cells) := ⟨XT.out.mv zm (by have := XT.out.lt; have := ORD.out; omega)⟩; replace XR : Sl (Blk w211 gR 53 (flatR fun _ => RVzero)) := ⟨XR.out.mv zm (by have := XR.out.lt; have := ORD.out; omega)⟩; replace XC : Sl (Blk w211 gC 34 (nr (cmv true) 1).cells) := ⟨XC.out.mv zm (by have := XC.out.lt; have := ORD.out; omega)⟩; replace XL : Sl (Blk w211 gL 53 (flatR (t.fA k))) := ⟨XL.out.mv zm (by have := XL.out.lt; have := ORD.out; omega)⟩; replace XN : Sl (Blk w211 gN 34 (nr (t.tp.rv k) t.tp.D).cells) := ⟨XN.out.mv zm (by have := XN.out.lt; have := ORD.out; omega)⟩; have XP : Sl (Blk w211 gP 23 #[.int .i64 0, .int .i64 0]) := ⟨zb⟩; clear zg zm zs zb)
            | (refine wpList_store_whole rfl 23 (.tmp 7) (.tmp 24) rfl gP #[.int .i64 n, .int .i64 d] rfl rfl 23 #[.int .i64 0, .int .i64 0] XP.out rfl (size_part n d) (part_one n d) ?_; rintro w212 zm zs zb; replace HB : Sl (Below w.heap.size w w212) := ⟨below_mv HB.out zm (by have := HB.out.size; have := ORD.out; omega) HB.out.size⟩; replace XT : Sl (Blk w212 gT 26 t.cells) := ⟨XT.out.mv zm (by have := XT.out.lt; have := ORD.out; omega)⟩; replace XR : Sl (Blk w212 gR 53 (flatR fun _ => RVzero)) := ⟨XR.out.mv zm (by have := XR.out.lt; have := ORD.out; omega)⟩; replace XC : Sl (Blk w212 gC 34 (nr (cmv true) 1).cells) := ⟨XC.out.mv zm (by have := XC.out.lt; have := ORD.out; omega)⟩; replace XL : Sl (Blk w212 gL 53 (flatR (t.fA k))) := ⟨XL.out.mv zm (by have := XL.out.lt; have := ORD.out; omega)⟩; replace XN : Sl (Blk w212 gN 34 (nr (t.tp.rv k) t.tp.D).cells) := ⟨XN.out.mv zm (by have := XN.out.lt; have := ORD.out; omega)⟩; replace XP : Sl (Blk w212 gP 23 #[.int .i64 n, .int .i64 d]) := ⟨zb⟩; clear zm zs zb; have cs2 : w212.cell? ⟨gT, 2, none⟩ = some (.int .i64 (W : Int)) := by rw [XT.out.cell 2, t.cell2, HWT.out.1]))
          exact ⟨⟨k + 1, hk12, by go_num, HB, XT, XR, XC, ⟨by rw [TV.fA_wolf t HKT.out]; exact XL.out⟩, ⟨by rw [HKT.out, t.tp.rest_wolf, ← HKT.out]; exact XN.out⟩⟩, by simp [RowKit.intOf]; omega⟩
        · have hne : ((k : Int) != (W : Int)) = true := by rw [bne_iff_ne]; omega
          have hkt : k ≠ t.tp.w := fun h => hkw (h.trans HWT.out.2)
          have HKT : Sl _ := ⟨hkt⟩
          clear hkt hkw
          go_wp2_with ((with_reducible show wpList _ _ _ _ _ _); first
            | (refine wpList_alloc_new 7 rfl rfl 23 rfl #[.int .i64 0, .int .i64 0] alloc_part ?_; rintro w313 gP zg zm zs zb; replace ORD : Sl (gT < w.heap.size ∧ w.heap.size ≤ gR ∧ gR < gC ∧ gC < gL ∧ gL < gN ∧ gN < gP) := ⟨by have := HB.out.size; have := ORD.out; have := XT.out.lt; have := XR.out.lt; have := XC.out.lt; have := XL.out.lt; have := XN.out.lt; omega⟩; replace HB : Sl (Below w.heap.size w w313) := ⟨below_mv HB.out zm (by have := HB.out.size; have := ORD.out; omega) HB.out.size⟩; replace XT : Sl (Blk w313 gT 26 t.cells) := ⟨XT.out.mv zm (by have := XT.out.lt; have := ORD.out; omega)⟩; replace XR : Sl (Blk w313 gR 53 (flatR fun _ => RVzero)) := ⟨XR.out.mv zm (by have := XR.out.lt; have := ORD.out; omega)⟩; replace XC : Sl (Blk w313 gC 34 (nr (cmv true) 1).cells) := ⟨XC.out.mv zm (by have := XC.out.lt; have := ORD.out; omega)⟩; replace XL : Sl (Blk w313 gL 53 (flatR (t.fA k))) := ⟨XL.out.mv zm (by have := XL.out.lt; have := ORD.out; omega)⟩; replace XN : Sl (Blk w313 gN 34 (nr (t.tp.rv k) t.tp.D).cells) := ⟨XN.out.mv zm (by have := XN.out.lt; have := ORD.out; omega)⟩; have XP : Sl (Blk w313 gP 23 #[.int .i64 0, .int .i64 0]) := ⟨zb⟩; clear zg zm zs zb)
            | (refine wpList_store_whole rfl 23 (.tmp 7) (.tmp 24) rfl gP #[.int .i64 n, .int .i64 d] rfl rfl 23 #[.int .i64 0, .int .i64 0] XP.out rfl (size_part n d) (part_one n d) ?_; rintro w314 zm zs zb; replace HB : Sl (Below w.heap.size w w314) := ⟨below_mv HB.out zm (by have := HB.out.size; have := ORD.out; omega) HB.out.size⟩; replace XT : Sl (Blk w314 gT 26 t.cells) := ⟨XT.out.mv zm (by have := XT.out.lt; have := ORD.out; omega)⟩; replace XR : Sl (Blk w314 gR 53 (flatR fun _ => RVzero)) := ⟨XR.out.mv zm (by have := XR.out.lt; have := ORD.out; omega)⟩; replace XC : Sl (Blk w314 gC 34 (nr (cmv true) 1).cells) := ⟨XC.out.mv zm (by have := XC.out.lt; have := ORD.out; omega)⟩; replace XL : Sl (Blk w314 gL 53 (flatR (t.fA k))) := ⟨XL.out.mv zm (by have := XL.out.lt; have := ORD.out; omega)⟩; replace XN : Sl (Blk w314 gN 34 (nr (t.tp.rv k) t.tp.D).cells) := ⟨XN.out.mv zm (by have := XN.out.lt; have := ORD.out; omega)⟩; replace XP : Sl (Blk w314 gP 23 #[.int .i64 n, .int .i64 d]) := ⟨zb⟩; clear zm zs zb; have cs2 : w314.cell? ⟨gT, 2, none⟩ = some (.int .i64 (W : Int)) := (by rw [XT.out.cell 2, t.cell2, HWT.out.1]); have cp0 : w314.cell? ⟨gP, 0, none⟩ = some (.int .i64 n) := XP.out.cell 0; have cp1 : w314.cell? ⟨gP, 1, none⟩ = some (.int .i64 d) := XP.out.cell 1)
            | (refine wpList_load_whole rfl 34 (.tmp 3) rfl gC rfl 34 (nr (cmv true) 1).cells _ XC.out Tryd.underlying34 rfl size_ratio ?_))
          clear cs2 cp0 cp1
          refine (HPW.out _).mono ?_; rintro e w315 ⟨rfl, hb⟩
          replace HB : Sl (Below w.heap.size w w315) := ⟨HB.out.trans (hb.mono HB.out.size)⟩
          replace XT : Sl (Blk w315 gT 26 t.cells) := ⟨XT.out.below hb XT.out.lt⟩
          replace XR : Sl (Blk w315 gR 53 (flatR fun _ => RVzero)) := ⟨XR.out.below hb XR.out.lt⟩
          replace XC : Sl (Blk w315 gC 34 (nr (cmv true) 1).cells) := ⟨XC.out.below hb XC.out.lt⟩
          replace XL : Sl (Blk w315 gL 53 (flatR (t.fA k))) := ⟨XL.out.below hb XL.out.lt⟩
          replace XN : Sl (Blk w315 gN 34 (nr (t.tp.rv k) t.tp.D).cells) := ⟨XN.out.below hb XN.out.lt⟩
          replace XP : Sl (Blk w315 gP 23 #[.int .i64 n, .int .i64 d]) := ⟨XP.out.below hb XP.out.lt⟩
          clear hb
          go_wp2_with ((with_reducible show wpList _ _ _ _ _ _); first
            | (refine wpList_alloc_new 8 rfl rfl 34 rfl RVzero.cells alloc_ratio ?_; rintro w316 gQ zg zm zs zb; replace ORD : Sl (gT < w.heap.size ∧ w.heap.size ≤ gR ∧ gR < gC ∧ gC < gL ∧ gL < gN ∧ gN < gP ∧ gP < gQ) := ⟨by have := HB.out.size; have := ORD.out; have := XT.out.lt; have := XR.out.lt; have := XC.out.lt; have := XL.out.lt; have := XN.out.lt; have := XP.out.lt; omega⟩; replace HB : Sl (Below w.heap.size w w316) := ⟨below_mv HB.out zm (by have := HB.out.size; have := ORD.out; omega) HB.out.size⟩; replace XT : Sl (Blk w316 gT 26 t.cells) := ⟨XT.out.mv zm (by have := XT.out.lt; have := ORD.out; omega)⟩; replace XR : Sl (Blk w316 gR 53 (flatR fun _ => RVzero)) := ⟨XR.out.mv zm (by have := XR.out.lt; have := ORD.out; omega)⟩; replace XC : Sl (Blk w316 gC 34 (nr (cmv true) 1).cells) := ⟨XC.out.mv zm (by have := XC.out.lt; have := ORD.out; omega)⟩; replace XL : Sl (Blk w316 gL 53 (flatR (t.fA k))) := ⟨XL.out.mv zm (by have := XL.out.lt; have := ORD.out; omega)⟩; replace XN : Sl (Blk w316 gN 34 (nr (t.tp.rv k) t.tp.D).cells) := ⟨XN.out.mv zm (by have := XN.out.lt; have := ORD.out; omega)⟩; replace XP : Sl (Blk w316 gP 23 #[.int .i64 n, .int .i64 d]) := ⟨XP.out.mv zm (by have := XP.out.lt; have := ORD.out; omega)⟩; have XQ : Sl (Blk w316 gQ 34 RVzero.cells) := ⟨zb⟩; clear zg zm zs zb)
            | (refine wpList_store_whole rfl 34 (.tmp 8) (.tmp 38) rfl gQ (nr (t.tp.pt k) t.tp.D).cells rfl rfl 34 RVzero.cells XQ.out rfl size_ratio (RV.cells_one _) ?_; rintro w317 zm zs zb; replace HB : Sl (Below w.heap.size w w317) := ⟨below_mv HB.out zm (by have := HB.out.size; have := ORD.out; omega) HB.out.size⟩; replace XT : Sl (Blk w317 gT 26 t.cells) := ⟨XT.out.mv zm (by have := XT.out.lt; have := ORD.out; omega)⟩; replace XR : Sl (Blk w317 gR 53 (flatR fun _ => RVzero)) := ⟨XR.out.mv zm (by have := XR.out.lt; have := ORD.out; omega)⟩; replace XC : Sl (Blk w317 gC 34 (nr (cmv true) 1).cells) := ⟨XC.out.mv zm (by have := XC.out.lt; have := ORD.out; omega)⟩; replace XL : Sl (Blk w317 gL 53 (flatR (t.fA k))) := ⟨XL.out.mv zm (by have := XL.out.lt; have := ORD.out; omega)⟩; replace XN : Sl (Blk w317 gN 34 (nr (t.tp.rv k) t.tp.D).cells) := ⟨XN.out.mv zm (by have := XN.out.lt; have := ORD.out; omega)⟩; replace XP : Sl (Blk w317 gP 23 #[.int .i64 n, .int .i64 d]) := ⟨XP.out.mv zm (by have := XP.out.lt; have := ORD.out; omega)⟩; replace XQ : Sl (Blk w317 gQ 34 (nr (t.tp.pt k) t.tp.D).cells) := ⟨zb⟩; clear zm zs zb))
          have hk1 : (0 : Int) ≤ (k : Int) := by omega
          have hk2 : (k : Int) < 12 := by omega
          have HOV : Sl (∀ W : World, Calls Tryd.prog 42 #[.agg (nr (fun j => b32 j * t.tp.D) t.tp.D).cells, .agg (nr (t.tp.pt k) t.tp.D).cells] W fun e w' => e = .returned (.agg (nr (t.tp.g k) t.tp.D).cells) ∧ Below W.heap.size W w') := ⟨fun W => tover_any _ _ _ W (HTO.out.fifth_join hk12 HKT.out)⟩
          have HWH : Sl (∀ W : World, PrT W → Calls Tryd.prog 38 #[.int .i64 3, .int .i64 2] W fun e w' => e = .returned (.agg (nr (fun j => b32 j * t.tp.D) t.tp.D).cells) ∧ Below W.heap.size W w') := ⟨fun W h => HC4.out W h⟩
          have hm : Mv gL w317 w317.drew := Mv.drew _ _
          have hs : RowKit.Below w317.heap.size w317 w317.drew := below_drewN (Below.refl _ _) 1
          have HSW : Sl _ := ⟨hs⟩
          clear hs
          refine wp_region_held_drew (S := fun w' => Mv gL w317 w') (by kernel_rfl) hm (fun hHeld => ?_)
          clear hm
          refine wpAnyH_pure 0 (v := .int .i64 (k : Int)) rfl (by kernel_rfl) (by kernel_rfl) (by kernel_rfl) (fun _ _ _ h => h) rfl (fun _ => rfl) (by assumption) ?_
          simp only [Act.put, List.setIfInBounds_toArray, List.set_cons_zero, List.set_cons_succ]
          refine wpAnyH_load 2 34 (.tmp 8) rfl rfl rfl gQ (0) rfl (nr (t.tp.pt k) t.tp.D).cells _ (fun w' h => by
            have e := XQ.out.mv h (by have := ORD.out; omega)
            exact e.all) Tryd.underlying34 rfl size_ratio (by kernel_rfl) (by kernel_rfl) (by kernel_rfl) (fun _ _ _ h => h) (by assumption) ?_
          simp only [Act.put, List.setIfInBounds_toArray, List.set_cons_zero, List.set_cons_succ]
          refine wpAnyH_one 1 rfl (by kernel_rfl) rfl (fun K hK => ?_)
          go_simp
          go_at_call 38
          (with_reducible refine (HWH.out _ (HT.out.below (HB.out.trans (HSW.out.mono HB.out.size)))).mono ?_)
          rintro e z318 ⟨rfl, hb⟩
          replace HSW : Sl (RowKit.Below w317.heap.size w317 z318) := ⟨HSW.out.trans (hb.mono HSW.out.size)⟩
          refine hK.out _ _ (Mv.below HSW.out) (fun hHeld => ?_)
          clear hK K hb
          (try simp only [Act.put, List.setIfInBounds_toArray, List.set_cons_zero, List.set_cons_succ])
          refine wpAnyH_one 3 rfl (by kernel_rfl) rfl (fun K hK => ?_)
          go_simp
          go_at_call 42
          (with_reducible refine (HOV.out _).mono ?_)
          rintro e z319 ⟨rfl, hb⟩
          replace HSW : Sl (RowKit.Below w317.heap.size w317 z319) := ⟨HSW.out.trans (hb.mono HSW.out.size)⟩
          refine hK.out _ _ (Mv.below HSW.out) (fun hHeld => ?_)
          clear hK K hb
          (try simp only [Act.put, List.setIfInBounds_toArray, List.set_cons_zero, List.set_cons_succ])
          refine wpAnyH_pure 4 (v := .pointer (some ⟨gL, k * 7, none⟩)) rfl (by kernel_rfl) (by kernel_rfl) (by kernel_rfl) (fun _ _ _ h => h) rfl (fun _ => by go_simp) (by assumption) ?_
          simp only [Act.put, List.setIfInBounds_toArray, List.set_cons_zero, List.set_cons_succ]
          refine wpAnyH_one 5 rfl (by kernel_rfl) rfl (fun K hK => ?_)
          refine wp_store_part 34 (.tmp 44) (.tmp 43) rfl gL (k * 7) (nr (t.tp.g k) t.tp.D).cells rfl rfl 53 (flatR (t.fA k)) (flatR (t.fA (k + 1))) (XL.out.below HSW.out XL.out.lt) (by rw [flatR_size, RV.cells_size]; omega) ((putR _ _ hk12).trans (t.fA_succ HKT.out)) size_ratio (RV.cells_one _) ?_
          rintro w320 zm zs zb
          refine hK.out _ _ (Mv.trans (Mv.below HSW.out) zm) (fun hHeld => ?_)
          clear hK K
          simp only [Act.put, List.setIfInBounds_toArray, List.set_cons_zero, List.set_cons_succ]
          refine wpAnyH_done (by kernel_rfl) ?_ _
          replace HB : Sl (Below w.heap.size w w320) := ⟨below_mv HB.out hHeld (by have := HB.out.size; have := ORD.out; omega) HB.out.size⟩
          replace XT : Sl (Blk w320 gT 26 t.cells) := ⟨XT.out.mv hHeld (by have := XT.out.lt; have := ORD.out; omega)⟩
          replace XR : Sl (Blk w320 gR 53 (flatR fun _ => RVzero)) := ⟨XR.out.mv hHeld (by have := XR.out.lt; have := ORD.out; omega)⟩
          replace XC : Sl (Blk w320 gC 34 (nr (cmv true) 1).cells) := ⟨XC.out.mv hHeld (by have := XC.out.lt; have := ORD.out; omega)⟩
          replace XN : Sl (Blk w320 gN 34 (nr (t.tp.rv k) t.tp.D).cells) := ⟨XN.out.mv hHeld (by have := XN.out.lt; have := ORD.out; omega)⟩
          replace XP : Sl (Blk w320 gP 23 #[.int .i64 n, .int .i64 d]) := ⟨XP.out.mv hHeld (by have := XP.out.lt; have := ORD.out; omega)⟩
          replace XQ : Sl (Blk w320 gQ 34 (nr (t.tp.pt k) t.tp.D).cells) := ⟨XQ.out.mv hHeld (by have := XQ.out.lt; have := ORD.out; omega)⟩
          replace XL : Sl (Blk w320 gL 53 (flatR (t.fA (k + 1)))) := ⟨zb⟩
          clear zm zs zb HSW; (try clear hHeld)
          go_wp2_with fail
          have hgk : t.fA (k + 1) k = (nr (t.tp.g k) t.tp.D) := by unfold TV.fA; rw [if_pos ⟨by omega, HKT.out⟩]
          have HGJ : Sl _ := ⟨hgk⟩
          clear hgk
          have HOR : Sl (∀ W : World, Calls Tryd.prog 42 #[.agg (nr (t.tp.rv k) t.tp.D).cells, .agg (nr (t.tp.g k) t.tp.D).cells] W fun e w' => e = .returned (.agg (nr (t.tp.rv (k + 1)) t.tp.D).cells) ∧ Below W.heap.size W w') := ⟨fun W => tover_any _ _ _ W (HTO.out.rest_join hk12)⟩
          have hm : Mv gN w320 w320.drew := Mv.drew _ _
          have hs : RowKit.Below w320.heap.size w320 w320.drew := below_drewN (Below.refl _ _) 1
          have HSW : Sl _ := ⟨hs⟩
          clear hs
          refine wp_region_held_drew (S := fun w' => Mv gN w320 w') (by kernel_rfl) hm (fun hHeld => ?_)
          clear hm
          refine wpAnyH_pure 1 (v := .int .i64 (k : Int)) rfl (by kernel_rfl) (by kernel_rfl) (by kernel_rfl) (fun _ _ _ h => h) rfl (fun _ => rfl) (by assumption) ?_
          simp only [Act.put, List.setIfInBounds_toArray, List.set_cons_zero, List.set_cons_succ]
          refine wpAnyH_pure 2 (v := .pointer (some ⟨gL, k * 7, none⟩)) rfl (by kernel_rfl) (by kernel_rfl) (by kernel_rfl) (fun _ _ _ h => h) rfl (fun _ => by go_simp) (by assumption) ?_
          simp only [Act.put, List.setIfInBounds_toArray, List.set_cons_zero, List.set_cons_succ]
          refine wpAnyH_load 3 34 (.tmp 47) rfl rfl rfl gL (k * 7) rfl (nr (t.tp.g k) t.tp.D).cells _ (fun w' h => by
            have e := XL.out.mv h (by have := ORD.out; omega)
            have e2 := e.atR hk12
            rw [HGJ.out] at e2
            exact e2) Tryd.underlying34 rfl size_ratio (by kernel_rfl) (by kernel_rfl) (by kernel_rfl) (fun _ _ _ h => h) (by assumption) ?_
          simp only [Act.put, List.setIfInBounds_toArray, List.set_cons_zero, List.set_cons_succ]
          refine wpAnyH_one 0 rfl (by kernel_rfl) rfl (fun K hK => ?_)
          refine wp_load_all 34 (.tmp 5) rfl gN rfl 34 (nr (t.tp.rv k) t.tp.D).cells _ (XN.out.below HSW.out XN.out.lt) Tryd.underlying34 rfl size_ratio ?_
          refine hK.out _ _ (Mv.below HSW.out) (fun hHeld => ?_)
          clear hK K
          simp only [Act.put, List.setIfInBounds_toArray, List.set_cons_zero, List.set_cons_succ]
          refine wpAnyH_one 4 rfl (by kernel_rfl) rfl (fun K hK => ?_)
          go_simp
          go_at_call 42
          (with_reducible refine (HOR.out _).mono ?_)
          rintro e z321 ⟨rfl, hb⟩
          replace HSW : Sl (RowKit.Below w320.heap.size w320 z321) := ⟨HSW.out.trans (hb.mono HSW.out.size)⟩
          refine hK.out _ _ (Mv.below HSW.out) (fun hHeld => ?_)
          clear hK K hb
          (try simp only [Act.put, List.setIfInBounds_toArray, List.set_cons_zero, List.set_cons_succ])
          refine wpAnyH_one 5 rfl (by kernel_rfl) rfl (fun K hK => ?_)
          refine wp_store_part 34 (.tmp 5) (.tmp 49) rfl gN (0) (nr (t.tp.rv (k + 1)) t.tp.D).cells rfl rfl 34 (nr (t.tp.rv k) t.tp.D).cells (nr (t.tp.rv (k + 1)) t.tp.D).cells (XN.out.below HSW.out XN.out.lt) (by rw [RV.cells_size, RV.cells_size]; omega) (putA_all _ _ rfl) size_ratio (RV.cells_one _) ?_
          rintro w322 zm zs zb
          refine hK.out _ _ (Mv.trans (Mv.below HSW.out) zm) (fun hHeld => ?_)
          clear hK K
          simp only [Act.put, List.setIfInBounds_toArray, List.set_cons_zero, List.set_cons_succ]
          refine wpAnyH_done (by kernel_rfl) ?_ _
          replace HB : Sl (Below w.heap.size w w322) := ⟨below_mv HB.out hHeld (by have := HB.out.size; have := ORD.out; omega) HB.out.size⟩
          replace XT : Sl (Blk w322 gT 26 t.cells) := ⟨XT.out.mv hHeld (by have := XT.out.lt; have := ORD.out; omega)⟩
          replace XR : Sl (Blk w322 gR 53 (flatR fun _ => RVzero)) := ⟨XR.out.mv hHeld (by have := XR.out.lt; have := ORD.out; omega)⟩
          replace XC : Sl (Blk w322 gC 34 (nr (cmv true) 1).cells) := ⟨XC.out.mv hHeld (by have := XC.out.lt; have := ORD.out; omega)⟩
          replace XL : Sl (Blk w322 gL 53 (flatR (t.fA (k + 1)))) := ⟨XL.out.mv hHeld (by have := XL.out.lt; have := ORD.out; omega)⟩
          replace XP : Sl (Blk w322 gP 23 #[.int .i64 n, .int .i64 d]) := ⟨XP.out.mv hHeld (by have := XP.out.lt; have := ORD.out; omega)⟩
          replace XQ : Sl (Blk w322 gQ 34 (nr (t.tp.pt k) t.tp.D).cells) := ⟨XQ.out.mv hHeld (by have := XQ.out.lt; have := ORD.out; omega)⟩
          replace XN : Sl (Blk w322 gN 34 (nr (t.tp.rv (k + 1)) t.tp.D).cells) := ⟨zb⟩
          clear zm zs zb HSW; (try clear hHeld)
          go_wp2_with fail
          exact ⟨⟨k + 1, hk12, by go_num, HB, XT, XR, XC, XL, XN⟩, by simp [RowKit.intOf]; omega⟩
      · obtain rfl : k = 12 := by omega
        clear hk12 hk
        go_wp2_with fail
        have hw1 : (0 : Int) ≤ (W : Int) := by omega
        have hw2 : (W : Int) < 12 := by omega
        have hcw : ∀ w' : World, Blk w' gT 26 t.cells → w'.cell? ⟨gT, 2, none⟩ = some (.int .i64 (W : Int)) := fun w' h => by rw [h.cell 2, t.cell2, HWT.out.1]
        have HCW : Sl _ := ⟨hcw⟩
        clear hcw
        have hput : putA (flatR (t.fA 12)) (W * 7) (nr (t.tp.rv 12) t.tp.D).cells.toList = flatR (fun k => nr (t.tp.f k) t.tp.D) := by rw [putR _ _ HW12, ← HWT.out.2]; exact t.fA_end
        have HPU : Sl _ := ⟨hput⟩
        clear hput
        have hm : Mv gL wr wr.drew := Mv.drew _ _
        have hs : RowKit.Below wr.heap.size wr wr.drew := below_drewN (Below.refl _ _) 1
        have HSW : Sl _ := ⟨hs⟩
        clear hs
        refine wp_region_held_drew (S := fun w' => Mv gL wr w') (by kernel_rfl) hm (fun hHeld => ?_)
        clear hm
        refine wpAnyH_pure 0 (v := .pointer (some ⟨gT, 0, none⟩)) rfl (by kernel_rfl) (by kernel_rfl) (by kernel_rfl) (fun _ _ _ h => h) rfl (fun _ => rfl) (by assumption) ?_
        simp only [Act.put, List.setIfInBounds_toArray, List.set_cons_zero, List.set_cons_succ]
        refine wpAnyH_pure 1 (v := .pointer (some ⟨gT, 0, none⟩)) rfl (by kernel_rfl) (by kernel_rfl) (by kernel_rfl) (fun _ _ _ h => h) rfl (fun _ => rfl) (by assumption) ?_
        simp only [Act.put, List.setIfInBounds_toArray, List.set_cons_zero, List.set_cons_succ]
        refine wpAnyH_pure 2 (v := .pointer (some ⟨gT, 2, none⟩)) rfl (by kernel_rfl) (by kernel_rfl) (by kernel_rfl) (fun _ _ _ h => h) rfl (fun _ => by go_simp) (by assumption) ?_
        simp only [Act.put, List.setIfInBounds_toArray, List.set_cons_zero, List.set_cons_succ]
        refine wpAnyH_cell 3 (v := .int .i64 (W : Int)) rfl rfl (fun w' h => by
          have e := HCW.out _ (XT.out.mv h (by have := ORD.out; omega))
          go_simp) (by kernel_rfl) (by kernel_rfl) (by kernel_rfl) (fun _ _ _ h => h) (by assumption) ?_
        simp only [Act.put, List.setIfInBounds_toArray, List.set_cons_zero, List.set_cons_succ]
        refine wpAnyH_load 4 34 (.tmp 5) rfl rfl rfl gN (0) rfl (nr (t.tp.rv 12) t.tp.D).cells _ (fun w' h => by
          have e := XN.out.mv h (by have := ORD.out; omega)
          exact e.all) Tryd.underlying34 rfl size_ratio (by kernel_rfl) (by kernel_rfl) (by kernel_rfl) (fun _ _ _ h => h) (by assumption) ?_
        simp only [Act.put, List.setIfInBounds_toArray, List.set_cons_zero, List.set_cons_succ]
        refine wpAnyH_pure 5 (v := .pointer (some ⟨gL, W * 7, none⟩)) rfl (by kernel_rfl) (by kernel_rfl) (by kernel_rfl) (fun _ _ _ h => h) rfl (fun _ => by go_simp) (by assumption) ?_
        simp only [Act.put, List.setIfInBounds_toArray, List.set_cons_zero, List.set_cons_succ]
        refine wpAnyH_one 6 rfl (by kernel_rfl) rfl (fun K hK => ?_)
        refine wp_store_part 34 (.tmp 56) (.tmp 55) rfl gL (W * 7) (nr (t.tp.rv 12) t.tp.D).cells rfl rfl 53 (flatR (t.fA 12)) (flatR fun k => nr (t.tp.f k) t.tp.D) (XL.out.below HSW.out XL.out.lt) (by rw [flatR_size, RV.cells_size]; omega) HPU.out size_ratio (RV.cells_one _) ?_
        rintro w323 zm zs zb
        refine hK.out _ _ (Mv.trans (Mv.below HSW.out) zm) (fun hHeld => ?_)
        clear hK K
        simp only [Act.put, List.setIfInBounds_toArray, List.set_cons_zero, List.set_cons_succ]
        refine wpAnyH_done (by kernel_rfl) ?_ _
        replace HB : Sl (Below w.heap.size w w323) := ⟨below_mv HB.out hHeld (by have := HB.out.size; have := ORD.out; omega) HB.out.size⟩
        replace XT : Sl (Blk w323 gT 26 t.cells) := ⟨XT.out.mv hHeld (by have := XT.out.lt; have := ORD.out; omega)⟩
        replace XR : Sl (Blk w323 gR 53 (flatR fun _ => RVzero)) := ⟨XR.out.mv hHeld (by have := XR.out.lt; have := ORD.out; omega)⟩
        replace XC : Sl (Blk w323 gC 34 (nr (cmv true) 1).cells) := ⟨XC.out.mv hHeld (by have := XC.out.lt; have := ORD.out; omega)⟩
        replace XN : Sl (Blk w323 gN 34 (nr (t.tp.rv 12) t.tp.D).cells) := ⟨XN.out.mv hHeld (by have := XN.out.lt; have := ORD.out; omega)⟩
        replace XL : Sl (Blk w323 gL 53 (flatR fun k => nr (t.tp.f k) t.tp.D)) := ⟨zb⟩
        clear zm zs zb HSW; (try clear hHeld)
        go_wp2_with ((with_reducible show wpList _ _ _ _ _ _); first
          | (refine wpList_load_whole rfl 53 (.tmp 4) rfl gL rfl 53 (flatR fun k => nr (t.tp.f k) t.tp.D) _ XL.out Tryd.underlying53 rfl (size_twelve _) ?_)
          | (refine wpList_store_whole rfl 53 (.tmp 2) (.tmp 57) rfl gR (flatR fun k => nr (t.tp.f k) t.tp.D) rfl rfl 53 (flatR fun _ => RVzero) XR.out (by rw [flatR_size, flatR_size]) (size_twelve _) (flatR_one _) ?_; rintro w324 zm zs zb; replace HB : Sl (Below w.heap.size w w324) := ⟨below_mv HB.out zm (by have := HB.out.size; have := ORD.out; omega) HB.out.size⟩; replace XT : Sl (Blk w324 gT 26 t.cells) := ⟨XT.out.mv zm (by have := XT.out.lt; have := ORD.out; omega)⟩; replace XC : Sl (Blk w324 gC 34 (nr (cmv true) 1).cells) := ⟨XC.out.mv zm (by have := XC.out.lt; have := ORD.out; omega)⟩; replace XL : Sl (Blk w324 gL 53 (flatR fun k => nr (t.tp.f k) t.tp.D)) := ⟨XL.out.mv zm (by have := XL.out.lt; have := ORD.out; omega)⟩; replace XN : Sl (Blk w324 gN 34 (nr (t.tp.rv 12) t.tp.D).cells) := ⟨XN.out.mv zm (by have := XN.out.lt; have := ORD.out; omega)⟩; replace XR : Sl (Blk w324 gR 53 (flatR fun k => nr (t.tp.f k) t.tp.D)) := ⟨zb⟩; clear zm zs zb))
        refine bodyPost_ret (results_cell_row rfl _ _ gR _ _ _ _ rfl XR.out Tryd.underlying53 rfl (size_twelve _)) rfl ?_
        exact ⟨rfl, HB.out⟩
end Go.Proofs.YtmcoadmnkelkkaaDoor
namespace Go.Proofs.YtmcoadmnkelkkaaDoor
set_option linter.unusedSimpArgs false
open Go.RowKit
set_option linter.unusedVariables false

attribute [-simp] Tryd.isAgg34 Tryd.isAgg53
/-- the notes of a temperament by class -/
noncomputable def TV.N (t : TV) (j : Nat) : RV := nr (t.tp.n (7 * j % 12)) t.tp.D
/-- the notes of the first fifths -/
noncomputable def TV.nA (t : TV) (k j : Nat) : RV := if 7 * j % 12 < k then t.N j else RVzero
theorem TV.nA_zero (t : TV) : flatR (t.nA 0) = flatR (fun _ => RVzero) := flatR_ext fun i _ => by unfold TV.nA; rw [if_neg (by omega)]
theorem TV.nA_succ (t : TV) {k : Nat} (hk : k < 12) : flatR (fun j => if j = 7 * k % 12 then nr (t.tp.n k) t.tp.D else t.nA k j) = flatR (t.nA (k + 1)) := flatR_ext fun i hi => by
  show (if i = 7 * k % 12 then nr (t.tp.n k) t.tp.D else t.nA k i) = t.nA (k + 1) i
  unfold TV.nA
  by_cases h0 : i = 7 * k % 12
  · have e : 7 * i % 12 = k := by omega
    rw [if_pos h0, if_pos (by omega)]
    unfold TV.N
    rw [e]
  · have e : 7 * i % 12 ≠ k := by omega
    rw [if_neg h0]
    by_cases h : 7 * i % 12 < k
    · rw [if_pos h, if_pos (by omega)]
    · rw [if_neg h, if_neg (by omega)]
theorem TV.nA_end (t : TV) : flatR (t.nA 12) = flatR t.N := flatR_ext fun i hi => by unfold TV.nA; rw [if_pos (by omega)]
set_option maxHeartbeats 6400000 in
set_option maxRecDepth 100000 in
theorem notes_any (t : TV) (hc : t.chk nameS = 0) (gT : Nat) (w : World) (hT : PrT w) (hB : Blk w gT 26 t.cells) :
    Calls Tryd.prog 25 #[.pointer (some ⟨gT, 0, none⟩)] w fun e w' => e = .returned (.agg (flatR t.N)) ∧ Below w.heap.size w w' := by
  have HB : Sl (Below w.heap.size w w) := ⟨Below.refl _ _⟩
  have HT : Sl _ := ⟨hT⟩
  have HTO : Sl _ := ⟨TV.tp_ok hc⟩
  have HCK : Sl _ := ⟨hc⟩
  have XT : Sl (Blk w gT 26 t.cells) := ⟨hB⟩
  have ORD : Sl (gT < w.heap.size) := ⟨hB.lt⟩
  have HIX : Sl _ := ⟨fun (W : World) (k : Nat) (hk : k < 12) => idxR (fun k => nr (t.tp.f k) t.tp.D) W hk⟩
  clear hT hc hB
  have HC1 : Sl (∀ W : World, PrT W → Calls Tryd.prog 38 #[.int .i64 1, .int .i64 1] W fun e w' => e = .returned (.agg (nr (t.tp.S 0) t.tp.D).cells) ∧ Below W.heap.size W w') := ⟨fun W h => whole_any _ _ _ W h HTO.out.one⟩
  have HFI : Sl (∀ W : World, PrT W → Blk W gT 26 t.cells → Calls Tryd.prog 39 #[.pointer (some ⟨gT, 0, none⟩)] W fun e w' => e = .returned (.agg (flatR fun k => nr (t.tp.f k) t.tp.D)) ∧ Below W.heap.size W w') := ⟨fun W h h2 => fifths_any t HCK.out gT W h h2⟩
  obtain ⟨FR, hfr⟩ : ∃ x, flatR (fun k => nr (t.tp.f k) t.tp.D) = x := ⟨_, rfl⟩
  rw [hfr] at HIX HFI
  clear hfr
  go_enter Tryd.func25, Tryd.ntmps25
  go_wp2_with ((with_reducible show wpList _ _ _ _ _ _); first
    | (refine wpList_alloc_new 2 rfl rfl 53 rfl (flatR fun _ => RVzero) alloc_twelve ?_; rintro w1 gR zg zm zs zb; replace ORD : Sl (gT < w.heap.size ∧ w.heap.size ≤ gR) := ⟨by have := HB.out.size; have := ORD.out; have := XT.out.lt; omega⟩; replace HB : Sl (Below w.heap.size w w1) := ⟨below_mv HB.out zm (by have := HB.out.size; have := ORD.out; omega) HB.out.size⟩; replace XT : Sl (Blk w1 gT 26 t.cells) := ⟨XT.out.mv zm (by have := XT.out.lt; have := ORD.out; omega)⟩; have XR : Sl (Blk w1 gR 53 (flatR fun _ => RVzero)) := ⟨zb⟩; clear zg zm zs zb)
    | (refine wpList_alloc_new 3 rfl rfl 53 rfl (flatR fun _ => RVzero) alloc_twelve ?_; rintro w2 gL zg zm zs zb; replace ORD : Sl (gT < w.heap.size ∧ w.heap.size ≤ gR ∧ gR < gL) := ⟨by have := HB.out.size; have := ORD.out; have := XT.out.lt; have := XR.out.lt; omega⟩; replace HB : Sl (Below w.heap.size w w2) := ⟨below_mv HB.out zm (by have := HB.out.size; have := ORD.out; omega) HB.out.size⟩; replace XT : Sl (Blk w2 gT 26 t.cells) := ⟨XT.out.mv zm (by have := XT.out.lt; have := ORD.out; omega)⟩; replace XR : Sl (Blk w2 gR 53 (flatR fun _ => RVzero)) := ⟨XR.out.mv zm (by have := XR.out.lt; have := ORD.out; omega)⟩; have XL : Sl (Blk w2 gL 53 (flatR fun _ => RVzero)) := ⟨zb⟩; clear zg zm zs zb))
  refine (HC1.out _ (HT.out.below HB.out)).mono ?_; rintro e w3 ⟨rfl, hb⟩
  replace HB : Sl (Below w.heap.size w w3) := ⟨HB.out.trans (hb.mono HB.out.size)⟩
  replace XT : Sl (Blk w3 gT 26 t.cells) := ⟨XT.out.below hb XT.out.lt⟩
  replace XR : Sl (Blk w3 gR 53 (flatR fun _ => RVzero)) := ⟨XR.out.below hb XR.out.lt⟩
  replace XL : Sl (Blk w3 gL 53 (flatR fun _ => RVzero)) := ⟨XL.out.below hb XL.out.lt⟩
  clear hb
  go_wp2_with ((with_reducible show wpList _ _ _ _ _ _); first
    | (refine wpList_alloc_new 4 rfl rfl 34 rfl RVzero.cells alloc_ratio ?_; rintro w4 gN zg zm zs zb; replace ORD : Sl (gT < w.heap.size ∧ w.heap.size ≤ gR ∧ gR < gL ∧ gL < gN) := ⟨by have := HB.out.size; have := ORD.out; have := XT.out.lt; have := XR.out.lt; have := XL.out.lt; omega⟩; replace HB : Sl (Below w.heap.size w w4) := ⟨below_mv HB.out zm (by have := HB.out.size; have := ORD.out; omega) HB.out.size⟩; replace XT : Sl (Blk w4 gT 26 t.cells) := ⟨XT.out.mv zm (by have := XT.out.lt; have := ORD.out; omega)⟩; replace XR : Sl (Blk w4 gR 53 (flatR fun _ => RVzero)) := ⟨XR.out.mv zm (by have := XR.out.lt; have := ORD.out; omega)⟩; replace XL : Sl (Blk w4 gL 53 (flatR fun _ => RVzero)) := ⟨XL.out.mv zm (by have := XL.out.lt; have := ORD.out; omega)⟩; have XN : Sl (Blk w4 gN 34 RVzero.cells) := ⟨zb⟩; clear zg zm zs zb)
    | (refine wpList_store_whole rfl 34 (.tmp 4) (.tmp 7) rfl gN (nr (t.tp.S 0) t.tp.D).cells rfl rfl 34 RVzero.cells XN.out rfl size_ratio (RV.cells_one _) ?_; rintro w5 zm zs zb; replace HB : Sl (Below w.heap.size w w5) := ⟨below_mv HB.out zm (by have := HB.out.size; have := ORD.out; omega) HB.out.size⟩; replace XT : Sl (Blk w5 gT 26 t.cells) := ⟨XT.out.mv zm (by have := XT.out.lt; have := ORD.out; omega)⟩; replace XR : Sl (Blk w5 gR 53 (flatR fun _ => RVzero)) := ⟨XR.out.mv zm (by have := XR.out.lt; have := ORD.out; omega)⟩; replace XL : Sl (Blk w5 gL 53 (flatR fun _ => RVzero)) := ⟨XL.out.mv zm (by have := XL.out.lt; have := ORD.out; omega)⟩; replace XN : Sl (Blk w5 gN 34 (nr (t.tp.S 0) t.tp.D).cells) := ⟨zb⟩; clear zm zs zb))
  refine (HFI.out _ (HT.out.below HB.out) XT.out).mono ?_; rintro e w6 ⟨rfl, hb⟩
  replace HB : Sl (Below w.heap.size w w6) := ⟨HB.out.trans (hb.mono HB.out.size)⟩
  replace XT : Sl (Blk w6 gT 26 t.cells) := ⟨XT.out.below hb XT.out.lt⟩
  replace XR : Sl (Blk w6 gR 53 (flatR fun _ => RVzero)) := ⟨XR.out.below hb XR.out.lt⟩
  replace XL : Sl (Blk w6 gL 53 (flatR fun _ => RVzero)) := ⟨XL.out.below hb XL.out.lt⟩
  replace XN : Sl (Blk w6 gN 34 (nr (t.tp.S 0) t.tp.D).cells) := ⟨XN.out.below hb XN.out.lt⟩
  clear hb
  go_wp2_with fail
  go_loopw [10] (fun s10 wr => ∃ k : Nat, k ≤ 12 ∧ s10 = .int .i64 k ∧ Sl (Below w.heap.size w wr) ∧ Sl (Blk wr gR 53 (flatR fun _ => RVzero)) ∧ Sl (Blk wr gL 53 (flatR (t.nA k))) ∧ Sl (Blk wr gN 34 (nr (t.tp.S k) t.tp.D).cells)) (fun s10 _ => 12 - (RowKit.intOf s10).toNat)
  case atStart => exact ⟨0, by decide, rfl, HB, XR, ⟨by rw [TV.nA_zero]; exact XL.out⟩, XN⟩
  case round =>
    clear HB XT XR XL XN
    obtain ⟨k, hk, rfl, HB, XR, XL, XN⟩ := hrel
    by_cases hk12 : k < 12
    · have hix := fun W : World => HIX.out W k hk12
      obtain ⟨q, hq⟩ : ∃ q, 7 * k % 12 = q := ⟨_, rfl⟩
      have hq12 : q < 12 := by omega
      have hqi : (7 : Int) * (k : Int) % 12 = (q : Int) := by omega
      have hput : putA (flatR (t.nA k)) (q * 7) (nr (t.tp.n k) t.tp.D).cells.toList = flatR (t.nA (k + 1)) := by rw [putR _ _ hq12, ← hq]; exact t.nA_succ hk12
      have HPU : Sl _ := ⟨hput⟩
      have hq0 : (0 : Int) ≤ (q : Int) := by omega
      have hq1 : (q : Int) < 12 := by omega
      clear hput hq
      have HFO : Sl (∀ W : World, PrT W → Calls Tryd.prog 40 #[.agg (nr (t.tp.S k) t.tp.D).cells] W fun e w' => e = .returned (.agg (nr (t.tp.n k) t.tp.D).cells) ∧ Below W.heap.size W w') := ⟨fun W h => folded_nr (HTO.out.S_fits (by omega)) (HTO.out.n_fits (by omega)) W h⟩
      have HTI : Sl (∀ W : World, Calls Tryd.prog 41 #[.agg (nr (t.tp.S k) t.tp.D).cells, .agg (nr (t.tp.f k) t.tp.D).cells] W fun e w' => e = .returned (.agg (nr (t.tp.S (k + 1)) t.tp.D).cells) ∧ Below W.heap.size W w') := ⟨fun W => ttimes_any _ _ _ W (HTO.out.note_join hk12)⟩
      go_wp2_with ((with_reducible show wpList _ _ _ _ _ _); first
        | (refine wpList_alloc_new 6 rfl rfl 34 rfl RVzero.cells alloc_ratio ?_; rintro w7 gP zg zm zs zb; replace ORD : Sl (gT < w.heap.size ∧ w.heap.size ≤ gR ∧ gR < gL ∧ gL < gN ∧ gN < gP) := ⟨by have := HB.out.size; have := ORD.out; have := XR.out.lt; have := XL.out.lt; have := XN.out.lt; omega⟩; replace HB : Sl (Below w.heap.size w w7) := ⟨below_mv HB.out zm (by have := HB.out.size; have := ORD.out; omega) HB.out.size⟩; replace XR : Sl (Blk w7 gR 53 (flatR fun _ => RVzero)) := ⟨XR.out.mv zm (by have := XR.out.lt; have := ORD.out; omega)⟩; replace XL : Sl (Blk w7 gL 53 (flatR (t.nA k))) := ⟨XL.out.mv zm (by have := XL.out.lt; have := ORD.out; omega)⟩; replace XN : Sl (Blk w7 gN 34 (nr (t.tp.S k) t.tp.D).cells) := ⟨XN.out.mv zm (by have := XN.out.lt; have := ORD.out; omega)⟩; have XP : Sl (Blk w7 gP 34 RVzero.cells) := ⟨zb⟩; clear zg zm zs zb)
        | (refine wpList_store_whole rfl 34 (.tmp 6) (.tmp 13) rfl gP (nr (t.tp.f k) t.tp.D).cells rfl rfl 34 RVzero.cells XP.out rfl size_ratio (RV.cells_one _) ?_; rintro w8 zm zs zb; replace HB : Sl (Below w.heap.size w w8) := ⟨below_mv HB.out zm (by have := HB.out.size; have := ORD.out; omega) HB.out.size⟩; replace XR : Sl (Blk w8 gR 53 (flatR fun _ => RVzero)) := ⟨XR.out.mv zm (by have := XR.out.lt; have := ORD.out; omega)⟩; replace XL : Sl (Blk w8 gL 53 (flatR (t.nA k))) := ⟨XL.out.mv zm (by have := XL.out.lt; have := ORD.out; omega)⟩; replace XN : Sl (Blk w8 gN 34 (nr (t.tp.S k) t.tp.D).cells) := ⟨XN.out.mv zm (by have := XN.out.lt; have := ORD.out; omega)⟩; replace XP : Sl (Blk w8 gP 34 (nr (t.tp.f k) t.tp.D).cells) := ⟨zb⟩; clear zm zs zb)
        | (refine wpList_load_whole rfl 34 (.tmp 4) rfl gN rfl 34 (nr (t.tp.S k) t.tp.D).cells _ XN.out Tryd.underlying34 rfl size_ratio ?_))
      refine (HFO.out _ (HT.out.below HB.out)).mono ?_; rintro e w9 ⟨rfl, hb⟩
      replace HB : Sl (Below w.heap.size w w9) := ⟨HB.out.trans (hb.mono HB.out.size)⟩
      replace XR : Sl (Blk w9 gR 53 (flatR fun _ => RVzero)) := ⟨XR.out.below hb XR.out.lt⟩
      replace XL : Sl (Blk w9 gL 53 (flatR (t.nA k))) := ⟨XL.out.below hb XL.out.lt⟩
      replace XN : Sl (Blk w9 gN 34 (nr (t.tp.S k) t.tp.D).cells) := ⟨XN.out.below hb XN.out.lt⟩
      replace XP : Sl (Blk w9 gP 34 (nr (t.tp.f k) t.tp.D).cells) := ⟨XP.out.below hb XP.out.lt⟩
      clear hb
      go_wp2_with ((with_reducible show wpList _ _ _ _ _ _); first
        | (refine wpList_store_part rfl 34 (.tmp 19) (.tmp 18) rfl gL (q * 7) (nr (t.tp.n k) t.tp.D).cells rfl rfl 53 (flatR (t.nA k)) (flatR (t.nA (k + 1))) XL.out (by rw [flatR_size, RV.cells_size]; omega) HPU.out size_ratio (RV.cells_one _) ?_; rintro w10 zm zs zb; replace HB : Sl (Below w.heap.size w w10) := ⟨below_mv HB.out zm (by have := HB.out.size; have := ORD.out; omega) HB.out.size⟩; replace XR : Sl (Blk w10 gR 53 (flatR fun _ => RVzero)) := ⟨XR.out.mv zm (by have := XR.out.lt; have := ORD.out; omega)⟩; replace XN : Sl (Blk w10 gN 34 (nr (t.tp.S k) t.tp.D).cells) := ⟨XN.out.mv zm (by have := XN.out.lt; have := ORD.out; omega)⟩; replace XP : Sl (Blk w10 gP 34 (nr (t.tp.f k) t.tp.D).cells) := ⟨XP.out.mv zm (by have := XP.out.lt; have := ORD.out; omega)⟩; replace XL : Sl (Blk w10 gL 53 (flatR (t.nA (k + 1)))) := ⟨zb⟩; clear zm zs zb)
        | (refine wpList_load_whole rfl 34 (.tmp 4) rfl gN rfl 34 (nr (t.tp.S k) t.tp.D).cells _ XN.out Tryd.underlying34 rfl size_ratio ?_)
        | (refine wpList_load_whole rfl 34 (.tmp 6) rfl gP rfl 34 (nr (t.tp.f k) t.tp.D).cells _ XP.out Tryd.underlying34 rfl size_ratio ?_))
      refine (HTI.out _).mono ?_; rintro e w11 ⟨rfl, hb⟩
      replace HB : Sl (Below w.heap.size w w11) := ⟨HB.out.trans (hb.mono HB.out.size)⟩
      replace XR : Sl (Blk w11 gR 53 (flatR fun _ => RVzero)) := ⟨XR.out.below hb XR.out.lt⟩
      replace XL : Sl (Blk w11 gL 53 (flatR (t.nA (k + 1)))) := ⟨XL.out.below hb XL.out.lt⟩
      replace XN : Sl (Blk w11 gN 34 (nr (t.tp.S k) t.tp.D).cells) := ⟨XN.out.below hb XN.out.lt⟩
      replace XP : Sl (Blk w11 gP 34 (nr (t.tp.f k) t.tp.D).cells) := ⟨XP.out.below hb XP.out.lt⟩
      clear hb
      go_wp2_with ((with_reducible show wpList _ _ _ _ _ _); first
        | (refine wpList_store_whole rfl 34 (.tmp 4) (.tmp 22) rfl gN (nr (t.tp.S (k + 1)) t.tp.D).cells rfl rfl 34 (nr (t.tp.S k) t.tp.D).cells XN.out rfl size_ratio (RV.cells_one _) ?_; rintro w12 zm zs zb; replace HB : Sl (Below w.heap.size w w12) := ⟨below_mv HB.out zm (by have := HB.out.size; have := ORD.out; omega) HB.out.size⟩; replace XR : Sl (Blk w12 gR 53 (flatR fun _ => RVzero)) := ⟨XR.out.mv zm (by have := XR.out.lt; have := ORD.out; omega)⟩; replace XL : Sl (Blk w12 gL 53 (flatR (t.nA (k + 1)))) := ⟨XL.out.mv zm (by have := XL.out.lt; have := ORD.out; omega)⟩; replace XP : Sl (Blk w12 gP 34 (nr (t.tp.f k) t.tp.D).cells) := ⟨XP.out.mv zm (by have := XP.out.lt; have := ORD.out; omega)⟩; replace XN : Sl (Blk w12 gN 34 (nr (t.tp.S (k + 1)) t.tp.D).cells) := ⟨zb⟩; clear zm zs zb))
      exact ⟨⟨k + 1, hk12, by go_num, HB, XR, XL, XN⟩, by simp [RowKit.intOf]; omega⟩
    · obtain rfl : k = 12 := by omega
      replace XL : Sl (Blk wr gL 53 (flatR t.N)) := ⟨by rw [← TV.nA_end]; exact XL.out⟩
      clear hk12 hk
      go_wp2_with ((with_reducible show wpList _ _ _ _ _ _); first
        | (refine wpList_load_whole rfl 53 (.tmp 3) rfl gL rfl 53 (flatR t.N) _ XL.out Tryd.underlying53 rfl (size_twelve _) ?_)
        | (refine wpList_store_whole rfl 53 (.tmp 2) (.tmp 24) rfl gR (flatR t.N) rfl rfl 53 (flatR fun _ => RVzero) XR.out (by rw [flatR_size, flatR_size]) (size_twelve _) (flatR_one _) ?_; rintro w63 zm zs zb; replace HB : Sl (Below w.heap.size w w63) := ⟨below_mv HB.out zm (by have := HB.out.size; have := ORD.out; omega) HB.out.size⟩; replace XL : Sl (Blk w63 gL 53 (flatR t.N)) := ⟨XL.out.mv zm (by have := XL.out.lt; have := ORD.out; omega)⟩; replace XN : Sl (Blk w63 gN 34 (nr (t.tp.S 12) t.tp.D).cells) := ⟨XN.out.mv zm (by have := XN.out.lt; have := ORD.out; omega)⟩; replace XR : Sl (Blk w63 gR 53 (flatR t.N)) := ⟨zb⟩; clear zm zs zb))
      refine bodyPost_ret (results_cell_row rfl _ _ gR _ _ _ _ rfl XR.out Tryd.underlying53 rfl (size_twelve _)) rfl ?_
      exact ⟨rfl, HB.out⟩
end Go.Proofs.YtmcoadmnkelkkaaDoor
namespace Go.Proofs.YtmcoadmnkelkkaaDoor
set_option linter.unusedSimpArgs false
open Go.RowKit
set_option linter.unusedVariables false

attribute [-simp] Tryd.isAgg34 Tryd.isAgg53 Tryd.isAgg26
theorem box_temper (t : TV) (w : World) : (Instr.box 26 (.agg t.cells)).run Tryd.prog w = .ok (.pointer (some ⟨w.heap.size, 0, none⟩)) (w.alloc (.cells t.cells 26)) := by kernel_rfl
theorem size_temper (t : TV) : (Tryd.prog.info? 26).map (·.size) = some t.cells.size := by kernel_rfl
theorem TV.cells_one (t : TV) : t.cells.all (·.oneCell') = true := by kernel_rfl
/-- is there a class? -/
def clsB (z : Int) : Bool := decide (0 ≤ z) && decide (z < 12)
theorem clsB_true {z : Int} : clsB z = true ↔ 0 ≤ z ∧ z < 12 := by unfold clsB; simp
theorem class_any (z : Int) (w : World) : Calls Tryd.prog 24 #[.int .i64 z] w fun e w' => e = .returned (.bool (clsB z)) ∧ w = w' := by
  by_cases h : 0 ≤ z
  · have hb : decide ((0 : Int) ≤ z) = true := decide_eq_true h
    have HC : Sl (clsB z = decide (z < 12)) := ⟨by unfold clsB; rw [hb, Bool.true_and]⟩
    go_enter Tryd.func24, Tryd.ntmps24
    go_wp2_with fail
    go_ret
    exact ⟨by rw [HC.out]; rfl, rfl⟩
  · have hb : decide ((0 : Int) ≤ z) = false := decide_eq_false h
    have HC : Sl (clsB z = false) := ⟨by unfold clsB; rw [hb, Bool.false_and]⟩
    go_enter Tryd.func24, Tryd.ntmps24
    go_wp2_with fail
    go_ret
    exact ⟨by rw [HC.out]; rfl, rfl⟩
/-- how far it is up from a class to another one -/
noncomputable def TV.B (t : TV) (a b : Nat) : RV := nr (t.tp.b (7 * a % 12) (7 * (b % 12) % 12)) t.tp.D
set_option maxHeartbeats 6400000 in
set_option maxRecDepth 100000 in
theorem between_any (t : TV) (hc : t.chk nameS = 0) (gL : Nat) (a b : Nat) (ha : a < 12) (hb : b < 24) (w : World) (hT : PrT w) (hB : Blk w gL 53 (flatR t.N)) :
    Calls Tryd.prog 26 #[.pointer (some ⟨gL, 0, none⟩), .int .i64 a, .int .i64 b] w fun e w' => e = .returned (.agg (t.B a b).cells) ∧ Below w.heap.size w w' := by
  have HB : Sl (Below w.heap.size w w) := ⟨Below.refl _ _⟩
  have HT : Sl _ := ⟨hT⟩
  have HTO : Sl _ := ⟨TV.tp_ok hc⟩
  have XL : Sl (Blk w gL 53 (flatR t.N)) := ⟨hB⟩
  have ORD : Sl (gL < w.heap.size) := ⟨hB.lt⟩
  clear hT hc hB
  obtain ⟨q, hq⟩ : ∃ q, b % 12 = q := ⟨_, rfl⟩
  have hq12 : q < 12 := by omega
  have hq0 : (0 : Int) ≤ (q : Int) := by omega
  have hq1 : (q : Int) < 12 := by omega
  have ha0 : (0 : Int) ≤ (a : Int) := by omega
  have ha1 : (a : Int) < 12 := by omega
  have HOV : Sl (∀ W : World, Calls Tryd.prog 42 #[.agg (t.N q).cells, .agg (t.N a).cells] W fun e w' => e = .returned (.agg (nr (t.tp.y (7 * a % 12) (7 * q % 12)) t.tp.D).cells) ∧ Below W.heap.size W w') := ⟨fun W => tover_any _ _ _ W (HTO.out.way_join (by omega) (by omega))⟩
  have HFO : Sl (∀ W : World, PrT W → Calls Tryd.prog 40 #[.agg (nr (t.tp.y (7 * a % 12) (7 * q % 12)) t.tp.D).cells] W fun e w' => e = .returned (.agg (t.B a b).cells) ∧ Below W.heap.size W w') := ⟨fun W h => by
    have := folded_nr (HTO.out.y_fits (a := 7 * a % 12) (b := 7 * q % 12) (by omega) (by omega)) (HTO.out.b_fits (by omega) (by omega)) W h
    unfold TV.B
    rw [hq]
    exact this⟩
  have hqi : (b : Int) % 12 = (q : Int) := by omega
  have hqt : (b : Int).tmod 12 = (q : Int) := by rw [Int.tmod_eq_emod_of_nonneg (by omega)]; exact hqi
  have hb0 : (0 : Int) ≤ (b : Int) := by omega
  clear hq
  go_enter Tryd.func26, Tryd.ntmps26
  go_wp2_with ((with_reducible show wpList _ _ _ _ _ _); first
    | (refine wpList_alloc_new 6 rfl rfl 34 rfl RVzero.cells alloc_ratio ?_; rintro w1 gR zg zm zs zb; replace ORD : Sl (gL < w.heap.size ∧ w.heap.size ≤ gR) := ⟨by have := HB.out.size; have := ORD.out; have := XL.out.lt; omega⟩; replace HB : Sl (Below w.heap.size w w1) := ⟨below_mv HB.out zm (by have := HB.out.size; have := ORD.out; omega) HB.out.size⟩; replace XL : Sl (Blk w1 gL 53 (flatR t.N)) := ⟨XL.out.mv zm (by have := XL.out.lt; have := ORD.out; omega)⟩; have XR : Sl (Blk w1 gR 34 RVzero.cells) := ⟨zb⟩; clear zg zm zs zb))
  have hm : Mv gR w1 w1.drew := Mv.drew _ _
  have hs : RowKit.Below w1.heap.size w1 w1.drew := below_drewN (Below.refl _ _) 1
  have HSW : Sl _ := ⟨hs⟩
  clear hs
  refine wp_region_held_drew (S := fun w' => Mv gR w1 w') (by kernel_rfl) hm (fun hHeld => ?_)
  clear hm
  refine wpAnyH_pure 0 (v := .pointer (some ⟨gL, 0, none⟩)) rfl (by kernel_rfl) (by kernel_rfl) (by kernel_rfl) (fun _ _ _ h => h) rfl (fun _ => rfl) (by assumption) ?_
  simp only [Act.put, List.setIfInBounds_toArray, List.set_cons_zero, List.set_cons_succ]
  refine wpAnyH_pure 1 (v := .int .i64 (b : Int)) rfl (by kernel_rfl) (by kernel_rfl) (by kernel_rfl) (fun _ _ _ h => h) rfl (fun _ => rfl) (by assumption) ?_
  simp only [Act.put, List.setIfInBounds_toArray, List.set_cons_zero, List.set_cons_succ]
  refine wpAnyH_pure 2 (v := .int .i64 (q : Int)) rfl (by kernel_rfl) (by kernel_rfl) (by kernel_rfl) (fun _ _ _ h => h) rfl (fun _ => by go_simp) (by assumption) ?_
  simp only [Act.put, List.setIfInBounds_toArray, List.set_cons_zero, List.set_cons_succ]
  refine wpAnyH_pure 3 (v := .pointer (some ⟨gL, 0, none⟩)) rfl (by kernel_rfl) (by kernel_rfl) (by kernel_rfl) (fun _ _ _ h => h) rfl (fun _ => rfl) (by assumption) ?_
  simp only [Act.put, List.setIfInBounds_toArray, List.set_cons_zero, List.set_cons_succ]
  refine wpAnyH_pure 4 (v := .pointer (some ⟨gL, q * 7, none⟩)) rfl (by kernel_rfl) (by kernel_rfl) (by kernel_rfl) (fun _ _ _ h => h) rfl (fun _ => by go_simp) (by assumption) ?_
  simp only [Act.put, List.setIfInBounds_toArray, List.set_cons_zero, List.set_cons_succ]
  refine wpAnyH_load 5 34 (.tmp 11) rfl rfl rfl gL (q * 7) rfl (t.N q).cells _ (fun w' h => by
    have e := XL.out.mv h (by have := ORD.out; omega)
    exact e.atR hq12) Tryd.underlying34 rfl size_ratio (by kernel_rfl) (by kernel_rfl) (by kernel_rfl) (fun _ _ _ h => h) (by assumption) ?_
  simp only [Act.put, List.setIfInBounds_toArray, List.set_cons_zero, List.set_cons_succ]
  refine wpAnyH_pure 6 (v := .pointer (some ⟨gL, 0, none⟩)) rfl (by kernel_rfl) (by kernel_rfl) (by kernel_rfl) (fun _ _ _ h => h) rfl (fun _ => rfl) (by assumption) ?_
  simp only [Act.put, List.setIfInBounds_toArray, List.set_cons_zero, List.set_cons_succ]
  refine wpAnyH_pure 7 (v := .int .i64 (a : Int)) rfl (by kernel_rfl) (by kernel_rfl) (by kernel_rfl) (fun _ _ _ h => h) rfl (fun _ => rfl) (by assumption) ?_
  simp only [Act.put, List.setIfInBounds_toArray, List.set_cons_zero, List.set_cons_succ]
  refine wpAnyH_pure 8 (v := .pointer (some ⟨gL, 0, none⟩)) rfl (by kernel_rfl) (by kernel_rfl) (by kernel_rfl) (fun _ _ _ h => h) rfl (fun _ => rfl) (by assumption) ?_
  simp only [Act.put, List.setIfInBounds_toArray, List.set_cons_zero, List.set_cons_succ]
  refine wpAnyH_pure 9 (v := .pointer (some ⟨gL, a * 7, none⟩)) rfl (by kernel_rfl) (by kernel_rfl) (by kernel_rfl) (fun _ _ _ h => h) rfl (fun _ => by go_simp) (by assumption) ?_
  simp only [Act.put, List.setIfInBounds_toArray, List.set_cons_zero, List.set_cons_succ]
  refine wpAnyH_load 10 34 (.tmp 16) rfl rfl rfl gL (a * 7) rfl (t.N a).cells _ (fun w' h => by
    have e := XL.out.mv h (by have := ORD.out; omega)
    exact e.atR ha) Tryd.underlying34 rfl size_ratio (by kernel_rfl) (by kernel_rfl) (by kernel_rfl) (fun _ _ _ h => h) (by assumption) ?_
  simp only [Act.put, List.setIfInBounds_toArray, List.set_cons_zero, List.set_cons_succ]
  refine wpAnyH_one 11 rfl (by kernel_rfl) rfl (fun K hK => ?_)
  go_simp
  go_at_call 42
  (with_reducible refine (HOV.out _).mono ?_)
  rintro e z2 ⟨rfl, hb⟩
  replace HSW : Sl (RowKit.Below w1.heap.size w1 z2) := ⟨HSW.out.trans (hb.mono HSW.out.size)⟩
  refine hK.out _ _ (Mv.below HSW.out) (fun hHeld => ?_)
  clear hK K hb
  (try simp only [Act.put, List.setIfInBounds_toArray, List.set_cons_zero, List.set_cons_succ])
  refine wpAnyH_one 12 rfl (by kernel_rfl) rfl (fun K hK => ?_)
  go_simp
  go_at_call 40
  (with_reducible refine (HFO.out _ (HT.out.below (HB.out.trans (HSW.out.mono HB.out.size)))).mono ?_)
  rintro e z3 ⟨rfl, hb⟩
  replace HSW : Sl (RowKit.Below w1.heap.size w1 z3) := ⟨HSW.out.trans (hb.mono HSW.out.size)⟩
  refine hK.out _ _ (Mv.below HSW.out) (fun hHeld => ?_)
  clear hK K hb
  (try simp only [Act.put, List.setIfInBounds_toArray, List.set_cons_zero, List.set_cons_succ])
  refine wpAnyH_one 13 rfl (by kernel_rfl) rfl (fun K hK => ?_)
  refine wp_store_part 34 (.tmp 6) (.tmp 19) rfl gR (0) (t.B a b).cells rfl rfl 34 RVzero.cells (t.B a b).cells (XR.out.below HSW.out XR.out.lt) (by rw [RV.cells_size, RV.cells_size]; omega) (putA_all _ _ rfl) size_ratio (RV.cells_one _) ?_
  rintro w4 zm zs zb
  refine hK.out _ _ (Mv.trans (Mv.below HSW.out) zm) (fun hHeld => ?_)
  clear hK K
  simp only [Act.put, List.setIfInBounds_toArray, List.set_cons_zero, List.set_cons_succ]
  refine wpAnyH_done (by kernel_rfl) ?_ _
  replace HB : Sl (Below w.heap.size w w4) := ⟨below_mv HB.out hHeld (by have := HB.out.size; have := ORD.out; omega) HB.out.size⟩
  replace XL : Sl (Blk w4 gL 53 (flatR t.N)) := ⟨XL.out.mv hHeld (by have := XL.out.lt; have := ORD.out; omega)⟩
  replace XR : Sl (Blk w4 gR 34 (t.B a b).cells) := ⟨zb⟩
  clear zm zs zb HSW; (try clear hHeld)
  go_wp2_with fail
  refine bodyPost_ret (results_cell_row rfl _ _ gR _ _ _ _ rfl XR.out Tryd.underlying34 rfl size_ratio) rfl ?_
  exact ⟨rfl, HB.out⟩
/-- millicents of an interval less a pure one -/
noncomputable def TV.X (t : TV) (p : Nat → Int) (a b : Nat) : Nat → Int := t.tp.x p (7 * a % 12) (7 * (b % 12) % 12)
noncomputable def TV.xc (t : TV) (p : Nat → Int) (a b : Nat) : Int := cmN (t.X p a b) t.tp.D
set_option maxHeartbeats 6400000 in
set_option maxRecDepth 100000 in
theorem third_any (t : TV) (hc : t.chk nameS = 0) (gL : Nat) (a : Nat) (ha : a < 12) (w : World) (hT : PrT w) (hB : Blk w gL 53 (flatR t.N)) :
    Calls Tryd.prog 36 #[.pointer (some ⟨gL, 0, none⟩), .int .i64 a] w fun e w' => e = .returned (.int .i64 (t.xc b54 a (a + 4))) ∧ Below w.heap.size w w' := by
  have HB : Sl (Below w.heap.size w w) := ⟨Below.refl _ _⟩
  have HT : Sl _ := ⟨hT⟩
  have HTO : Sl _ := ⟨TV.tp_ok hc⟩
  have HCK : Sl _ := ⟨hc⟩
  have XL : Sl (Blk w gL 53 (flatR t.N)) := ⟨hB⟩
  clear hT hc hB
  have HBE : Sl (∀ W : World, PrT W → Blk W gL 53 (flatR t.N) → Calls Tryd.prog 26 #[.pointer (some ⟨gL, 0, none⟩), .int .i64 a, .int .i64 ((a : Int) + 4)] W fun e w' => e = .returned (.agg (t.B a (a + 4)).cells) ∧ Below W.heap.size W w') := ⟨fun W h h2 => by
    have := between_any t HCK.out gL a (a + 4) ha (by omega) W h h2
    rw [show ((a + 4 : Nat) : Int) = (a : Int) + 4 by omega] at this
    exact this⟩
  have HWH : Sl (∀ W : World, PrT W → Calls Tryd.prog 38 #[.int .i64 5, .int .i64 4] W fun e w' => e = .returned (.agg (nr (fun j => b54 j * t.tp.D) t.tp.D).cells) ∧ Below W.heap.size W w') := ⟨fun W h => whole_any _ _ _ W h (thi_up HTO.out.hD.1)⟩
  have HOV : Sl (∀ W : World, Calls Tryd.prog 42 #[.agg (t.B a (a + 4)).cells, .agg (nr (fun j => b54 j * t.tp.D) t.tp.D).cells] W fun e w' => e = .returned (.agg (nr (t.X b54 a (a + 4)) t.tp.D).cells) ∧ Below W.heap.size W w') := ⟨fun W => tover_any _ _ _ W (HTO.out.x_join pure54 (by omega) (by omega))⟩
  have HCE : Sl (∀ W : World, PrT W → Calls Tryd.prog 35 #[.agg (nr (t.X b54 a (a + 4)) t.tp.D).cells] W fun e w' => e = .returned (.int .i64 (t.xc b54 a (a + 4))) ∧ Below W.heap.size W w') := ⟨fun W h => by
    obtain ⟨h1, h2⟩ := HTO.out.x_rng pure54 (a := 7 * a % 12) (b := 7 * ((a + 4) % 12) % 12) (by omega) (by omega)
    exact tcents_nr (HTO.out.x_fits pure54 (by omega) (by omega)) h1 h2 W h⟩
  have ha0 : (0 : Int) ≤ (a : Int) := by omega
  have ha1 : (a : Int) < 12 := by omega
  go_enter Tryd.func36, Tryd.ntmps36
  go_wp2_with fail
  refine (HBE.out _ (HT.out.below HB.out) XL.out).mono ?_; rintro e w1 ⟨rfl, hb⟩
  replace HB : Sl (Below w.heap.size w w1) := ⟨HB.out.trans (hb.mono HB.out.size)⟩
  replace XL : Sl (Blk w1 gL 53 (flatR t.N)) := ⟨XL.out.below hb XL.out.lt⟩
  clear hb
  go_wp2_with fail
  refine (HWH.out _ (HT.out.below HB.out)).mono ?_; rintro e w2 ⟨rfl, hb⟩
  replace HB : Sl (Below w.heap.size w w2) := ⟨HB.out.trans (hb.mono HB.out.size)⟩
  replace XL : Sl (Blk w2 gL 53 (flatR t.N)) := ⟨XL.out.below hb XL.out.lt⟩
  clear hb
  go_wp2_with fail
  refine (HOV.out _).mono ?_; rintro e w3 ⟨rfl, hb⟩
  replace HB : Sl (Below w.heap.size w w3) := ⟨HB.out.trans (hb.mono HB.out.size)⟩
  replace XL : Sl (Blk w3 gL 53 (flatR t.N)) := ⟨XL.out.below hb XL.out.lt⟩
  clear hb
  go_wp2_with fail
  refine (HCE.out _ (HT.out.below HB.out)).mono ?_; rintro e w4 ⟨rfl, hb⟩
  replace HB : Sl (Below w.heap.size w w4) := ⟨HB.out.trans (hb.mono HB.out.size)⟩
  replace XL : Sl (Blk w4 gL 53 (flatR t.N)) := ⟨XL.out.below hb XL.out.lt⟩
  clear hb
  go_wp2_with fail
  go_ret
  exact ⟨rfl, HB.out⟩
set_option maxHeartbeats 6400000 in
set_option maxRecDepth 100000 in
theorem fifth_any (t : TV) (hc : t.chk nameS = 0) (gL : Nat) (a : Nat) (ha : a < 12) (w : World) (hT : PrT w) (hB : Blk w gL 53 (flatR t.N)) :
    Calls Tryd.prog 37 #[.pointer (some ⟨gL, 0, none⟩), .int .i64 a] w fun e w' => e = .returned (.int .i64 (t.xc b32 a (a + 7))) ∧ Below w.heap.size w w' := by
  have HB : Sl (Below w.heap.size w w) := ⟨Below.refl _ _⟩
  have HT : Sl _ := ⟨hT⟩
  have HTO : Sl _ := ⟨TV.tp_ok hc⟩
  have HCK : Sl _ := ⟨hc⟩
  have XL : Sl (Blk w gL 53 (flatR t.N)) := ⟨hB⟩
  clear hT hc hB
  have HBE : Sl (∀ W : World, PrT W → Blk W gL 53 (flatR t.N) → Calls Tryd.prog 26 #[.pointer (some ⟨gL, 0, none⟩), .int .i64 a, .int .i64 ((a : Int) + 7)] W fun e w' => e = .returned (.agg (t.B a (a + 7)).cells) ∧ Below W.heap.size W w') := ⟨fun W h h2 => by
    have := between_any t HCK.out gL a (a + 7) ha (by omega) W h h2
    rw [show ((a + 7 : Nat) : Int) = (a : Int) + 7 by omega] at this
    exact this⟩
  have HWH : Sl (∀ W : World, PrT W → Calls Tryd.prog 38 #[.int .i64 3, .int .i64 2] W fun e w' => e = .returned (.agg (nr (fun j => b32 j * t.tp.D) t.tp.D).cells) ∧ Below W.heap.size W w') := ⟨fun W h => whole_any _ _ _ W h (fif_up HTO.out.hD.1)⟩
  have HOV : Sl (∀ W : World, Calls Tryd.prog 42 #[.agg (t.B a (a + 7)).cells, .agg (nr (fun j => b32 j * t.tp.D) t.tp.D).cells] W fun e w' => e = .returned (.agg (nr (t.X b32 a (a + 7)) t.tp.D).cells) ∧ Below W.heap.size W w') := ⟨fun W => tover_any _ _ _ W (HTO.out.x_join pure32 (by omega) (by omega))⟩
  have HCE : Sl (∀ W : World, PrT W → Calls Tryd.prog 35 #[.agg (nr (t.X b32 a (a + 7)) t.tp.D).cells] W fun e w' => e = .returned (.int .i64 (t.xc b32 a (a + 7))) ∧ Below W.heap.size W w') := ⟨fun W h => by
    obtain ⟨h1, h2⟩ := HTO.out.x_rng pure32 (a := 7 * a % 12) (b := 7 * ((a + 7) % 12) % 12) (by omega) (by omega)
    exact tcents_nr (HTO.out.x_fits pure32 (by omega) (by omega)) h1 h2 W h⟩
  have ha0 : (0 : Int) ≤ (a : Int) := by omega
  have ha1 : (a : Int) < 12 := by omega
  go_enter Tryd.func37, Tryd.ntmps37
  go_wp2_with fail
  refine (HBE.out _ (HT.out.below HB.out) XL.out).mono ?_; rintro e w1 ⟨rfl, hb⟩
  replace HB : Sl (Below w.heap.size w w1) := ⟨HB.out.trans (hb.mono HB.out.size)⟩
  replace XL : Sl (Blk w1 gL 53 (flatR t.N)) := ⟨XL.out.below hb XL.out.lt⟩
  clear hb
  go_wp2_with fail
  refine (HWH.out _ (HT.out.below HB.out)).mono ?_; rintro e w2 ⟨rfl, hb⟩
  replace HB : Sl (Below w.heap.size w w2) := ⟨HB.out.trans (hb.mono HB.out.size)⟩
  replace XL : Sl (Blk w2 gL 53 (flatR t.N)) := ⟨XL.out.below hb XL.out.lt⟩
  clear hb
  go_wp2_with fail
  refine (HOV.out _).mono ?_; rintro e w3 ⟨rfl, hb⟩
  replace HB : Sl (Below w.heap.size w w3) := ⟨HB.out.trans (hb.mono HB.out.size)⟩
  replace XL : Sl (Blk w3 gL 53 (flatR t.N)) := ⟨XL.out.below hb XL.out.lt⟩
  clear hb
  go_wp2_with fail
  refine (HCE.out _ (HT.out.below HB.out)).mono ?_; rintro e w4 ⟨rfl, hb⟩
  replace HB : Sl (Below w.heap.size w w4) := ⟨HB.out.trans (hb.mono HB.out.size)⟩
  replace XL : Sl (Blk w4 gL 53 (flatR t.N)) := ⟨XL.out.below hb XL.out.lt⟩
  clear hb
  go_wp2_with fail
  go_ret
  exact ⟨rfl, HB.out⟩
end Go.Proofs.YtmcoadmnkelkkaaDoor
