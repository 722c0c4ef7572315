/- The law's shown by the sort of fewer than twenty items. (Printed by genshs.py.) -/
import Derived.Test.YtabkpbbjodfolaaGreatDoorZvSa
namespace Go.Proofs.YtabkpbbjodfolaaGreatDoor
set_option linter.unusedSimpArgs false
open Go.RowKit
set_option linter.unusedVariables false
set_option maxHeartbeats 12800000 in
set_option maxRecDepth 100000 in
theorem lwStableS_any (ws : List Int) (g gf N cap : Nat) (d : Nat → Int) (w : World) (h : PBI ws w g N d) (hf : KeyI ws w gf g) (hN : N < 20) (hid : ∀ k, k < N → d k = (k : Int)) :
    Calls Tryz.prog 114 #[.slice (some ⟨g, 0, none⟩) N cap, .int .i64 N, .func (.func 59) #[] #[.pointer (some ⟨gf, 0, none⟩)]] w fun e w' => e = .returned (.tuple #[]) ∧ Mv g w w' ∧ ∃ d', PBI ws w' g N d' ∧ Pm 0 N d d' ∧ Srt (dueI ws) d' 0 N := by
  have HP : Sl _ := ⟨h⟩; have HI : Sl _ := ⟨insSortI_any ws g gf N cap 0 N d w h hf (Nat.zero_le _) (Nat.le_refl _) (by omega) (fun p q h1 h2 h3 => by rw [hid p (by omega), hid q (by omega)]; omega)⟩; have hN6 : (N : Int) < 20 := (by omega); have hbI : ¬ (20 : Int) ≤ (N : Int) := (by omega); have hbd : decide ((20 : Int) ≤ (N : Int)) = false := decide_eq_false hbI; have hsI : ¬ (20 : Int) < (N : Int) := (by omega); have hsd : decide ((20 : Int) < (N : Int)) = false := decide_eq_false hsI; clear h hf hid hN; go_enter Tryz.func114, Tryz.ntmps114; go_wp2_with fail
  go_loopw [7, 8] (fun s7 s8 wr => s7 = .int .i64 0 ∧ s8 = .int .i64 20 ∧ Sl (wr = w)) (fun s7 s8 _ => 0)
  case atStart => exact ⟨rfl, rfl, ⟨rfl⟩⟩
  case round =>
    obtain ⟨rfl, rfl, HW0⟩ := hrel; obtain rfl := HW0.out; clear HW0; go_wp2_with fail; refine HI.out.mono ?_; rintro ee w2 ⟨rfl, hm2, e2, hp2, hq2, hs2⟩; have HW : Sl (Mv g wr w2 ∧ PBI ws w2 g N e2 ∧ Pm 0 N d e2 ∧ Srt (dueI ws) e2 0 N) := ⟨hm2, hp2, hq2, hs2⟩; clear hm2 hp2 hq2 hs2 HI; go_wp2_with fail
    go_loopw [6, 7, 8, 9] (fun s6 s7 s8 s9 wv => ∃ (v7 v8 v9 : Value), s6 = .int .i64 20 ∧ s7 = v7 ∧ s8 = v8 ∧ s9 = v9 ∧ Sl (wv = w2)) (fun s6 _ _ _ _ => 0)
    case atStart => exact ⟨_, _, _, rfl, rfl, rfl, rfl, ⟨rfl⟩⟩
    case round =>
      obtain ⟨v7, v8, v9, rfl, rfl, rfl, rfl, HW0⟩ := hrel; obtain rfl := HW0.out; clear HW0; go_wp2_with fail; go_end0; exact ⟨rfl, HW.out.1, e2, HW.out.2⟩
set_option maxHeartbeats 12800000 in
set_option maxRecDepth 100000 in
theorem lwSortStableS_any (ws : List Int) (g gf N cap : Nat) (d : Nat → Int) (w : World) (h : PBI ws w g N d) (hf : KeyI ws w gf g) (hN : N < 20) (hid : ∀ k, k < N → d k = (k : Int)) :
    Calls Tryz.prog 58 #[.slice (some ⟨g, 0, none⟩) N cap, .func (.func 59) #[] #[.pointer (some ⟨gf, 0, none⟩)]] w fun e w' => e = .returned (.tuple #[]) ∧ Mv g w w' ∧ ∃ d', PBI ws w' g N d' ∧ Pm 0 N d d' ∧ Srt (dueI ws) d' 0 N := by
  have HI : Sl _ := ⟨lwStableS_any ws g gf N cap d w h hf hN hid⟩; clear h hf hid hN; go_enter Tryz.func58, Tryz.ntmps58; go_wp2_with fail; refine HI.out.mono ?_; rintro e w2 ⟨rfl, h1, h2⟩; have HM : Sl _ := ⟨And.intro h1 h2⟩; clear h1 h2 HI; go_wp2_with fail; go_end0; exact ⟨rfl, HM.out⟩
theorem planSortS_any {A B : Option Addr} {n c cb : Nat} {ws : List Int} {w wr : World} (hn : ws.length = n) (h80 : n < 20) (hl : II w A n ws) (hD : Lg w wr [(w.heap.size, 60, #[.slice A n c])]) (hO : OI wr w.heap.size B n cb (nums n)) :
    Calls Tryz.prog 58 #[.slice B n cb, .func (.func 59) #[] #[.pointer (some ⟨w.heap.size, 0, none⟩)]] wr fun e w' => e = .returned (.tuple #[]) ∧ II w' B n (ordL ws) ∧ Lg w w' [(w.heap.size, 60, #[.slice A n c])] := by
  rcases Nat.eq_zero_or_pos n with h0 | h0
  · subst h0; refine (sort0_any B cb w.heap.size wr).mono fun e w' hh => ?_
    obtain ⟨rfl, rfl⟩ := hh; have hod : ordL ws = [] := List.eq_nil_of_length_eq_zero (by rw [ordL, ordF_len, hn]); exact ⟨rfl, by rw [hod]; exact II.nil _ _, hD⟩
  · obtain ⟨g, hB⟩ : ∃ g, B = some ⟨g, 0, none⟩ := by
      rcases hO.2 with ⟨h1, _⟩ | ⟨g, cap, cur, e1, _⟩
      · exact absurd h1 (by intro e; injection e with _ e2; omega)
      · injection e1 with e1; exact ⟨g, e1⟩
    subst hB; have hlt := hO.lt g rfl; have hir : IRow wr g n (fun k : Nat => (k : Int)) := hO.irow.congr fun j hj => nums_at hj
    have hw : KeyI ws wr w.heap.size g := by
      refine ⟨⟨A, c, by rw [hn]; exact hD.at_ 0 rfl, by rw [hn]; exact hl.below hD.bl, fun ad e => ?_⟩, ?_, by omega⟩
      · obtain ⟨ad', e', hb, _⟩ := hl.2.2 h0; rw [e] at e'; injection e' with e'
        subst e'; omega
      · exact fun e => hO.ne_blk (hD.at_ 0 rfl) ne_L64 (by rw [e]; rfl)
    refine (lwSortStableS_any ws g w.heap.size n cb (fun k : Nat => (k : Int)) wr ⟨hir, fun j hj => by rw [hn]; show 0 ≤ (j : Int) ∧ (j : Int) < (n : Int); omega⟩ hw (by omega) (fun _ _ => rfl)).mono fun e w' hh => ?_
    obtain ⟨rfl, hm, d', hp, hq, hs⟩ := hh; refine ⟨rfl, hp.1.ii ?_, hD.mv hm hlt.1 (fun q hq2 => ?_)⟩
    · have := ordL_of (ws := ws) (by omega) (e := d') (by rw [hn]; exact hq) (by rw [hn]; exact hs)
      rwa [hn] at this
    · simp only [List.mem_cons, List.not_mem_nil, or_false] at hq2; subst hq2; exact fun e => hO.ne_blk (hD.at_ 0 rfl) ne_L64 (by show some g = some _; rw [← e])
set_option maxHeartbeats 12800000 in
set_option maxRecDepth 100000 in
theorem crPlanS_any (A : Option Addr) (n c : Nat) (ws : List Int) (steps : Int) (w : World) (hl : II w A n ws) (hn : n ≤ maxLen) (hs : i64 steps) (h20 : n < 20) :
    Calls Tryz.prog 20 #[.slice A n c, .int .i64 steps] w fun e w' => PlnR w.heap.size (planG ws steps) (planS ws steps) (planE ws steps) e w' ∧ Below w.heap.size w w' := by
  have HLN : Sl (ws.length = n) := ⟨hl.1⟩; have H20 : Sl (n < 20) := ⟨h20⟩; clear h20; have HL : Sl _ := ⟨hl⟩; have HE : Sl (planE ws steps = if 80 < n then 3 else if steps < 1 ∨ 60 < steps then 2 else fstE (rngW ws) n 0) := ⟨by rw [← hl.1]; rfl⟩; have hb1 := (Below.refl w.heap.size w).alloc (Nat.le_refl _) (.cells #[.slice A n c] 60); have HD : Sl (Lg w (w.alloc (.cells #[.slice A n c] 60)) [(w.heap.size, 60, #[.slice A n c])]) := ⟨(Lg.nil w).new rfl (Mv.of_below hb1) (Blk.new w _ _)⟩; have c0 : (w.alloc (.cells #[.slice A n c] 60)).cell? ⟨w.heap.size, 0, none⟩ = some (.slice A n c) := (HD.out.at_ 0 rfl).cell 0
  have HNO : Sl (∀ e, planE ws steps = e → e ≠ 0 → planG ws steps = [] ∧ planS ws steps = 0) := ⟨fun e h1 h2 => by
    unfold planG planS; rw [if_neg (by rw [h1]; exact h2), if_neg (by rw [h1]; exact h2)]
    exact ⟨rfl, rfl⟩⟩
  have hmf : ∀ (fn : Fn) (first cap : Array Value) (w : World), (Instr.makeFunc fn first cap).run Tryz.prog w = .ok (.func fn first cap) w := fun _ _ _ _ => rfl
  unfold maxLen at hn; clear hl hb1; obtain ⟨E, hE⟩ : ∃ E, planE ws steps = E := ⟨_, rfl⟩; obtain ⟨S, hS⟩ : ∃ S, planS ws steps = S := ⟨_, rfl⟩; obtain ⟨G, hG⟩ : ∃ G, planG ws steps = G := ⟨_, rfl⟩
  have HGS : Sl (E = 0 → S = lst (wtL ws) (steps.toNat - 1) 0 ∧ G = (grpE (wtL ws) S steps.toNat 0).map (cutL (ordL ws))) := ⟨fun h => by
    unfold planG at hG; unfold planS at hS; rw [if_pos (by rw [hE, h])] at hG hS
    exact ⟨hS.symm, by rw [← hG, ← hS]; unfold planS; rw [if_pos (by rw [hE, h])]⟩⟩
  rw [hE] at HE HNO; rw [hE, hS, hG]; rw [hS, hG] at HNO; replace HNO : Sl (E ≠ 0 → G = [] ∧ S = 0) := ⟨fun h => HNO.out E rfl h⟩; clear hE hS hG; go_enter Tryz.func20, Tryz.ntmps20
  by_cases h80 : 80 < n
  · have q1 : (80 : Int) < (n : Int) := (by omega); have q1d : decide ((80 : Int) < (n : Int)) = true := decide_eq_true q1; have HV : Sl (E = 3) := ⟨by rw [HE.out, if_pos h80]⟩; clear h80; go_wp2_with fail
    (try simp only [Exit.inBlock, Exit.then])
    refine bodyPost_ret (v := .tuple #[.slice none 0 0, .int .i64 0, .int .i64 3]) (by simp [results, Tryz.results20, go_sem]) rfl ?_; obtain ⟨h1, h2⟩ := HNO.out (by rw [HV.out]; decide); rw [h1, h2, HV.out]; exact ⟨PlnR.no, HD.out.bl⟩
  have q1 : ¬ (80 : Int) < (n : Int) := (by omega); have q1d : decide ((80 : Int) < (n : Int)) = false := decide_eq_false q1; rw [if_neg h80] at HE; have hn80 : (n : Int) ≤ 80 := (by omega); have HN80 : Sl (n ≤ 80) := ⟨by omega⟩
  by_cases h1 : steps < 1
  · have q2d : decide (steps < 1) = true := decide_eq_true h1; have q2e : decide (steps ≤ 0) = true := decide_eq_true (by omega); have HV : Sl (E = 2) := ⟨by rw [HE.out]; exact if_pos (.inl h1)⟩; clear h80; go_wp2_with fail
    (try simp only [Exit.inBlock, Exit.then])
    refine bodyPost_ret (v := .tuple #[.slice none 0 0, .int .i64 0, .int .i64 2]) (by simp [results, Tryz.results20, go_sem]) rfl ?_; obtain ⟨h1, h2⟩ := HNO.out (by rw [HV.out]; decide); rw [h1, h2, HV.out]; exact ⟨PlnR.no, HD.out.bl⟩
  have q2d : decide (steps < 1) = false := decide_eq_false h1
  by_cases h2 : 60 < steps
  · have q3d : decide (60 < steps) = true := decide_eq_true h2; have HV : Sl (E = 2) := ⟨by rw [HE.out]; exact if_pos (.inr h2)⟩; clear h80; go_wp2_with fail
    (try simp only [Exit.inBlock, Exit.then])
    refine bodyPost_ret (v := .tuple #[.slice none 0 0, .int .i64 0, .int .i64 2]) (by simp [results, Tryz.results20, go_sem]) rfl ?_; obtain ⟨h1, h2⟩ := HNO.out (by rw [HV.out]; decide); rw [h1, h2, HV.out]; exact ⟨PlnR.no, HD.out.bl⟩
  have q3d : decide (60 < steps) = false := decide_eq_false h2; replace HE : Sl (E = fstE (rngW ws) n 0) := ⟨by rw [HE.out, if_neg (by omega)]⟩; obtain ⟨st, rfl⟩ := Int.eq_ofNat_of_zero_le (show 0 ≤ steps by omega); have HST : Sl (1 ≤ st ∧ st ≤ 60) := ⟨by omega⟩; have hst1 : (1 : Int) ≤ (st : Int) := (by omega); have hst6 : (st : Int) ≤ 60 := (by omega); clear h1 h2 h80 hs; go_wp2_with fail; clear q1 q1d q2d q3d c0; rw [Int.toNat_natCast] at HGS
  go_loopw [4, 7, 33] (fun s4 s7 s33 wv => ∃ (k : Nat) (B : Option Addr) (cb : Nat), k ≤ n ∧ s4 = .slice none 0 0 ∧ s7 = .slice B k cb ∧ s33 = .int .i64 k ∧ Sl (Lg w wv [(w.heap.size, 60, #[.slice A n c])] ∧ OI wv w.heap.size B k cb (nums k)) ∧ Sl (fstE (rngW ws) (n - k) k = E)) (fun _ _ s33 _ => n - (RowKit.intOf s33).toNat)
  case atStart => exact ⟨0, none, 0, Nat.zero_le _, rfl, rfl, rfl, ⟨HD.out, OI.nil _ _⟩, ⟨HE.out.symm⟩⟩
  case round =>
    obtain ⟨k, B, cb, hk, rfl, rfl, rfl, HM, HK⟩ := hrel
    by_cases hkn : k < n
    · have hkI : decide ((k : Int) < (n : Int)) = true := decide_eq_true (by omega); have hkI2 : (k : Int) < (n : Int) := (by omega); obtain ⟨ad, hA2, hab, c1⟩ := (HL.out.below HM.out.1.bl).cell (j := k) hkn; have HSX : Sl (E = if rngW ws k = 0 then fstE (rngW ws) (n - (k + 1)) (k + 1) else rngW ws k) := ⟨by rw [← HK.out, show n - k = (n - (k + 1)) + 1 by omega]; rfl⟩; have HRW : Sl (rngW ws k = if gt ws k < 0 ∨ 1073741824 < gt ws k then 7 else 0) := ⟨rfl⟩; obtain ⟨z, hz⟩ : ∃ z, gt ws k = z := ⟨_, rfl⟩; rw [hz] at c1 HRW; rw [hA2]; have HA2 : Sl _ := ⟨hA2⟩; clear hz hA2 HD HK
      by_cases p1 : z < 0
      · have p1d : decide (z < 0) = true := decide_eq_true p1; have h7 : rngW ws k = 7 := (by rw [HRW.out]; exact if_pos (.inl p1)); have HV : Sl (E = 7) := ⟨by rw [HSX.out, h7]; rfl⟩; clear h7; go_wp2_with fail
        (try simp only [Exit.inBlock, Exit.then])
        refine bodyPost_ret (v := .tuple #[.slice none 0 0, .int .i64 0, .int .i64 7]) (by simp [results, Tryz.results20, go_sem]) rfl ?_; obtain ⟨h1, h2⟩ := HNO.out (by rw [HV.out]; decide); rw [h1, h2, HV.out]; exact ⟨PlnR.no, HM.out.1.bl⟩
      · have p1d : decide (z < 0) = false := decide_eq_false p1
        by_cases p2 : 1073741824 < z
        · have p2d : decide (1073741824 < z) = true := decide_eq_true p2; have h7 : rngW ws k = 7 := (by rw [HRW.out]; exact if_pos (.inr p2)); have HV : Sl (E = 7) := ⟨by rw [HSX.out, h7]; rfl⟩; clear h7; go_wp2_with fail
          (try simp only [Exit.inBlock, Exit.then])
          refine bodyPost_ret (v := .tuple #[.slice none 0 0, .int .i64 0, .int .i64 7]) (by simp [results, Tryz.results20, go_sem]) rfl ?_; obtain ⟨h1, h2⟩ := HNO.out (by rw [HV.out]; decide); rw [h1, h2, HV.out]; exact ⟨PlnR.no, HM.out.1.bl⟩
        · have p2d : decide (1073741824 < z) = false := decide_eq_false p2; have HV : Sl (fstE (rngW ws) (n - (k + 1)) (k + 1) = E) := ⟨by rw [HSX.out, if_pos]; rw [HRW.out, if_neg (by omega)]⟩; have HO : Sl _ := ⟨HM.out.2⟩; have HD : Sl _ := ⟨HM.out.1⟩; have HK1 : Sl (k + 1 ≤ 1000000) := ⟨by have := HN80.out; omega⟩; clear HM HRW HSX p1 p2; go_wp2_with (at_builtin; go_loud (refine wpList_append_oi rfl (.tmp 44) (.tmp 46) rfl w.heap.size B k cb (nums k) rfl (HO.out.alloc _) (some ⟨wr.heap.size, 0, none⟩) 1 1 [(k : Int)] rfl (II.made _ _ _) HK1.out (Nat.le_trans HD.out.bl.size (by simp)) ?_); rintro B2 c2 w2 zo zg zt; have HZ : Sl _ := ⟨And.intro zo zg⟩; clear zo zg zt); have hD2 : Lg w w2 [(w.heap.size, 60, #[.slice A n c])] := (HD.out.below ((Below.refl _ _).alloc (Nat.le_refl _) _)).app (HO.out.alloc _) HZ.out.2 (by intro q hq; simp only [List.mem_cons, List.not_mem_nil, or_false] at hq; subst hq; exact ne_L64); rw [HA2.out] at hD2; exact ⟨⟨k + 1, B2, c2, by omega, rfl, rfl, by go_num, ⟨hD2, by rw [nums_succ]; exact HZ.out.1⟩, HV⟩, by simp [RowKit.intOf]; omega⟩
    · obtain rfl : k = n := (by omega); have HE0 : Sl (E = 0) := ⟨by rw [← HK.out, Nat.sub_self]; rfl⟩; have HO : Sl _ := ⟨HM.out.2⟩; replace HD : Sl _ := ⟨HM.out.1⟩; have HCB : Sl (k ≤ cb) := ⟨HO.out.cap.1⟩; clear HM HK hk hkn; have HLE : Sl (∀ j, 0 ≤ gt (wtL ws) j ∧ gt (wtL ws) j ≤ 1073741824) := ⟨wtL_bd (by rw [HLN.out, ← HE.out, HE0.out])⟩; have HSRT : Sl _ := ⟨planSortS_any HLN.out H20.out HL.out HD.out HO.out⟩; go_wp2_with fail; refine HSRT.out.mono ?_; rintro e w2 ⟨rfl, zi, zd⟩; have HII : Sl _ := ⟨zi⟩; have HB2 : Sl (Below w.heap.size w w2) := ⟨zd.bl⟩; have HGW : Sl (Blk w2 w.heap.size 60 #[.slice A k c]) := ⟨zd.at_ 0 rfl⟩; have HWS : Sl _ := ⟨HL.out.below zd.bl⟩; clear zi zd HSRT HO HD HL; go_wp2_with fail
      go_loopw [10, 11, 54] (fun s10 s11 s54 wv => ∃ (t : Nat) (C : Option Addr) (cc : Nat), t ≤ k ∧ s10 = .slice C t cc ∧ s11 = .int .i64 (psm (wtL ws) t) ∧ s54 = .int .i64 t ∧ Sl (Below w2.heap.size w2 wv ∧ OL wv w2.heap.size C t cc ((wtL ws).take t))) (fun _ _ s54 _ => k - (RowKit.intOf s54).toNat)
      case atStart => exact ⟨0, none, 0, Nat.zero_le _, rfl, rfl, rfl, ⟨Below.refl _ _, OL.nil _ _⟩⟩
      case round =>
        obtain ⟨t, C, cc, ht, rfl, rfl, rfl, HM⟩ := hrel
        by_cases htk : t < k
        · have htI : decide ((t : Int) < (k : Int)) = true := decide_eq_true (by omega); have htI2 : (t : Int) < (k : Int) := (by omega); obtain ⟨ad, hB2, hab, c1⟩ := (HII.out.below HM.out.1).cell htk
          have hmem := (ordF_mem ws ws.length (gt (ordL ws) t)).1 (by
            have ho : t < (ordL ws).length := (by rw [ordL, ordF_len, HLN.out]; exact htk)
            rw [gtI_get ho]; exact List.getElem_mem ho)
          rw [HLN.out] at hmem; have HWT : Sl _ := ⟨And.intro (wt_take ws (k := t) (by rw [HLN.out]; exact htk)) (wt_gt ws (k := t) (by rw [HLN.out]; exact htk))⟩; obtain ⟨x, hx⟩ : ∃ x, gt (ordL ws) t = x := ⟨_, rfl⟩; rw [hx] at c1 hmem HWT; clear hx; obtain ⟨xn, rfl⟩ := Int.eq_ofNat_of_zero_le hmem.1; have hxI : (xn : Int) < (k : Int) := hmem.2; have hxN : xn < k := (by omega); rw [Int.toNat_natCast] at HWT; obtain ⟨ad2, hA2, hab2, c2⟩ := (HWS.out.below HM.out.1).cell hxN; have g0 := (HGW.out.below HM.out.1 HGW.out.lt).cell 0; simp at g0; have hgb := HLE.out t; rw [HWT.out.2] at hgb; have hps := psm_le HLE.out t; have HPS : Sl (psm (wtL ws) (t + 1) = psm (wtL ws) t + gt ws xn) := ⟨by rw [psm, HWT.out.2]⟩; obtain ⟨z, hz⟩ : ∃ z, gt ws xn = z := ⟨_, rfl⟩; obtain ⟨p, hp⟩ : ∃ p, psm (wtL ws) t = p := ⟨_, rfl⟩; rw [hz] at c2 hgb HPS HWT; rw [hp] at hps HPS ⊢; rw [hB2]; have HAA : Sl (B = some ad ∧ A = some ad2) := ⟨hB2, hA2⟩; rw [hA2] at g0 ⊢; have hk80 : (k : Int) ≤ 80 := (by have := HN80.out; omega); have hz1 := hgb.1; have hz2 := hgb.2; have hp1 := hps.1; have hp2 : p ≤ 85899345920 := (by omega); have HPQ : Sl (psm (wtL ws) (t + 1) = p + z) := ⟨by rw [HPS.out]⟩; clear hp hmem hgb hps hA2 hB2; have HZZ : Sl (gt ws xn = z) := ⟨hz⟩; clear hz; have HT1 : Sl (t + 1 ≤ 1000000) := ⟨by have := HN80.out; omega⟩
          go_upto_region 20 with (at_builtin; go_loud (refine wpList_append_ol rfl (.tmp 58) (.tmp 63) rfl w2.heap.size C t cc ((wtL ws).take t) rfl (HM.out.2.alloc _) (some ⟨wr.heap.size, 0, none⟩) 1 1 [z] rfl (II.made _ _ _) HT1.out (Nat.le_trans HM.out.1.size (by simp)) ?_); rintro C2 c2' w3 zo zg zt; have HZ : Sl _ := ⟨And.intro zo zg⟩; clear zo zg zt)
          have hbz : Below w2.heap.size w2 w3 := below_grown (HM.out.1.alloc (HM.out.1.size) _) HZ.out.2 (Nat.le_trans HM.out.1.size (by simp)) (fun q hq => (World.ownsRow.lt HM.out.2 q hq).1); have HBZ : Sl _ := ⟨hbz⟩; have hO := HZ.out.1; rw [← HWT.out.1] at hO; have HOZ : Sl (OL w3 w2.heap.size C2 (t + 1) c2' ((wtL ws).take (t + 1))) := ⟨hO⟩; have g1 := (HGW.out.below hbz HGW.out.lt).cell 0; simp at g1; rw [HAA.out.2] at g1; obtain ⟨ad3, hA3, _, c3⟩ := (HWS.out.below hbz).cell hxN; have hA4 := HAA.out.2.symm.trans hA3; injection hA4 with hA4
          subst hA4; rw [HZZ.out] at c3; have hpw : IntKind.i64.wrap (p + z) = p + z := (by rw [IntKind.wrap_i64]; omega); clear c1 c2 g0 hbz hO hA3 HZ HM; go_wp2_with fail; exact ⟨⟨t + 1, C2, c2', by omega, rfl, by rw [HPS.out], by go_num, ⟨HBZ.out, HOZ.out⟩⟩, by simp [RowKit.intOf]; omega⟩
        · obtain rfl : t = k := (by omega); have HO : Sl (Below w2.heap.size w2 wr ∧ OL wr w2.heap.size C t cc (wtL ws)) := ⟨HM.out.1, by have := HM.out.2; rwa [List.take_of_length_le (by rw [wtL_len, HLN.out]; exact Nat.le_refl _)] at this⟩; obtain ⟨hS0, hG0⟩ := HGS.out HE0.out; have hpos : ∀ j, 0 ≤ gt (wtL ws) j := fun j => (HLE.out j).1
          have hlp := lst_pos hpos (st - 1) 0 (Nat.zero_le _); have hsum := psm_le HLE.out t; have hlen : (wtL ws).length = t := (by rw [wtL_len, HLN.out]); rw [hlen, ← hS0] at hlp
          have HFI : Sl (∀ Q : Int, 0 ≤ Q → (rem (wtL ws) Q st = 0 ↔ S ≤ Q)) := ⟨fun Q hQ => by
            have := fit_iff hpos hQ (st - 1); rw [show st - 1 + 1 = st by have := HST.out; omega] at this
            rw [this, ← hS0]⟩
          have HFC : Sl _ := ⟨fun (g : Nat) (Q : Int) (W : World) (hW : Below wr.heap.size wr W) (hg : g ≤ 60) (hQ : 0 ≤ Q ∧ Q ≤ 1099511627776) => crfit_any C t cc (wtL ws) g Q W (HO.out.2.ii.below hW) (by have := HN80.out; omega) (by omega) HLE.out hQ⟩; have HRL : Sl (∀ (Q : Int) (g : Nat), rem (wtL ws) Q g ≤ t) := ⟨fun Q g => by rw [← hlen]; exact rem_le _ _ _⟩; obtain ⟨T, hT⟩ : ∃ T, psm (wtL ws) t = T := ⟨_, rfl⟩; rw [hT] at hlp hsum ⊢; have HT : Sl (0 ≤ S ∧ S ≤ T ∧ T ≤ 85899345920) := ⟨by have := HN80.out; omega⟩; have HGG : Sl _ := ⟨hG0⟩; clear hT hS0 hG0 hpos hlp hsum hlen HGS HNO HM; go_wp2_with fail
          go_loop [14, 15, 16] (fun s14 s15 s16 => ∃ (lo hi : Int) (v16 : Value), s14 = .int .i64 lo ∧ s15 = .int .i64 hi ∧ v16 = s16 ∧ Sl (0 ≤ lo ∧ lo ≤ S ∧ S ≤ hi ∧ hi ≤ 85899345920)) (fun s14 s15 _ => (RowKit.intOf s15 - RowKit.intOf s14).toNat)
          case atStart => exact ⟨0, T, _, rfl, rfl, rfl, ⟨by have := HT.out; omega⟩⟩
          case round =>
            obtain ⟨lo, hi, v16, rfl, rfl, rfl, HLH⟩ := hrel; obtain ⟨l1, l2, l3, l4⟩ := HLH.out
            by_cases hlh : lo < hi
            · have hld : decide (lo < hi) = true := decide_eq_true hlh; obtain ⟨q, hq⟩ : ∃ q, (lo + hi) / 2 = q := ⟨_, rfl⟩; have hq1 : lo ≤ q ∧ q < hi := (by omega); have HQ : Sl (lo ≤ q ∧ q < hi ∧ q ≤ 85899345920) := ⟨by omega⟩; have hq0 : 0 ≤ q := (by omega); have hq2 : q ≤ 85899345920 := (by omega); have HF1 := HFI.out q hq0; have HFQ : Sl _ := ⟨HFC.out st q wr (Below.refl _ _) (by have := HST.out; omega) (by omega)⟩; have HRQ : Sl _ := ⟨HRL.out q st⟩; obtain ⟨rm, hrm⟩ : ∃ rm, rem (wtL ws) q st = rm := ⟨_, rfl⟩; rw [hrm] at HF1 HFQ HRQ; have HFF : Sl _ := ⟨HF1⟩; have hrt := HRQ.out
              by_cases hr0 : rm = 0
              · have he : (((t - rm : Nat) : Int) == (t : Int)) = true := (by rw [beq_iff_eq]; omega); have HSQ : Sl (S ≤ q) := ⟨HFF.out.1 hr0⟩; obtain ⟨tr, htr⟩ : ∃ tr, t - rm = tr := ⟨_, rfl⟩; rw [htr] at HFQ he; clear HF1 hrm hr0 htr hlh; go_wp2_with fail; refine HFQ.out.mono ?_; rintro e w4 ⟨rfl, rfl⟩; go_wp2_with fail; exact ⟨⟨lo, q, _, rfl, rfl, rfl, ⟨l1, l2, HSQ.out, HQ.out.2.2⟩⟩, by have := HQ.out; simp [RowKit.intOf]; omega⟩
              · have he : (((t - rm : Nat) : Int) == (t : Int)) = false := (by rw [beq_eq_false_iff_ne]; omega); have HSQ : Sl (q + 1 ≤ S) := ⟨by have := fun h => hr0 (HFF.out.2 h); omega⟩; obtain ⟨tr, htr⟩ : ∃ tr, t - rm = tr := ⟨_, rfl⟩; rw [htr] at HFQ he; clear HF1 hrm hr0 htr hlh; go_wp2_with fail; refine HFQ.out.mono ?_; rintro e w4 ⟨rfl, rfl⟩; go_wp2_with fail; exact ⟨⟨q + 1, hi, _, rfl, rfl, rfl, ⟨by omega, HSQ.out, l3, l4⟩⟩, by have := HQ.out; simp [RowKit.intOf]; omega⟩
            · have hld : decide (lo < hi) = false := decide_eq_false hlh; have hlS : lo = S := (by omega); subst hlS; have HS9 : Sl (0 ≤ lo ∧ lo ≤ 1099511627776) := ⟨by omega⟩; clear hlh l2 l3 HLH HFI HT; go_wp2_with fail
              go_loopw [4, 17, 18, 19] (fun s4 s17 s18 s19 wv => ∃ (m f : Nat) (Gs : Option Addr) (kg cg : Nat) (LL : List SlV) (v19 : Value), m ≤ st ∧ s4 = .slice Gs kg cg ∧ s17 = .int .i64 f ∧ s18 = .int .i64 m ∧ v19 = s19 ∧ Sl (f ≤ t ∧ kg + m = st) ∧ Sl (Below wr.heap.size wr wv ∧ OG wv wr.heap.size Gs kg cg LL) ∧ Sl (LL.map SlV.l ++ (grpE (wtL ws) lo m f).map (cutL (ordL ws)) = G)) (fun _ _ s18 _ _ => (RowKit.intOf s18).toNat)
              case atStart => exact ⟨st, 0, none, 0, 0, [], _, Nat.le_refl _, rfl, rfl, rfl, rfl, ⟨Nat.zero_le _, Nat.zero_add _⟩, ⟨Below.refl _ _, OG.nil _ _⟩, ⟨HGG.out.symm⟩⟩
              case round =>
                obtain ⟨m, f, Gs, kg, cg, LL, v19, hm, rfl, rfl, rfl, rfl, HF, HM, HR⟩ := hrel
                by_cases hm0 : m = 0
                · have hmd : decide ((0 : Int) < (m : Int)) = false := decide_eq_false (by omega); have hmI : ¬ (0 : Int) < (m : Int) := (by omega); have hmN : ¬ 0 < m := (by omega); have hmNd : decide (0 < m) = false := decide_eq_false hmN; have HRR : Sl (LL.map SlV.l = G) := ⟨by have := HR.out; rw [hm0, grpE] at this; simpa using this⟩; clear hm0; go_wp2_with fail; refine bodyPost_ret (v := .tuple #[.slice Gs kg cg, .int .i64 lo, .int .i64 0]) (by simp [results, Tryz.results20, go_sem]) rfl ?_; rw [HE0.out]; have hbw := HO.out.1.size; have hbw2 := HB2.out.size; have hmono : ∀ {base base' : Nat} {e : TypeId} {v : Value} {n : Nat} {xs : List Value} {W : World}, W.ownsRow base e 1 v n xs → base' ≤ base → W.ownsRow base' e 1 v n xs := fun h hb => ⟨h.1, h.2.imp id fun ⟨g, cap, cur, h1, h2, h3⟩ => ⟨g, cap, cur, h1, Nat.le_trans hb h2, h3⟩⟩
                  exact ⟨⟨Gs, kg, cg, LL, rfl, ⟨hmono HM.out.2.row (by omega), fun s hs => (HM.out.2.all s hs).mono (by omega)⟩, HRR.out⟩, (HB2.out.trans (HO.out.1.mono hbw2)).trans (HM.out.1.mono (by omega))⟩
                · obtain ⟨m', hm'⟩ : ∃ m', m' + 1 = m := ⟨m - 1, by omega⟩; have hmd : decide ((0 : Int) < (m : Int)) = true := decide_eq_true (by omega); have hmI : (0 : Int) < (m : Int) := (by omega); have hmN : 0 < m := (by omega); have hmNd : decide (0 < m) = true := decide_eq_true hmN; have hmp : (m : Int) - 1 = (m' : Int) := (by omega); have hmw : IntKind.i64.wrap (m' : Int) = (m' : Int) := (by have := HST.out; rw [IntKind.wrap_i64]; omega); have HMP : Sl (m' + 1 = m) := ⟨hm'⟩; have HFT : Sl _ := ⟨HFC.out m' lo _ HM.out.1 (by have := HST.out; omega) HS9.out⟩; have HRQ : Sl _ := ⟨HRL.out lo m'⟩; have hgr : grpE (wtL ws) lo m f = (f, max f (rem (wtL ws) lo m')) :: grpE (wtL ws) lo m' (max f (rem (wtL ws) lo m')) := (by rw [← hm', grpE]); rw [hgr] at HR; obtain ⟨rm, hrm⟩ : ∃ rm, rem (wtL ws) lo m' = rm := ⟨_, rfl⟩; rw [hrm] at HFT HRQ HR; have hrt := HRQ.out; have hft := HF.out.1; obtain ⟨tr, htr⟩ : ∃ tr, t - rm = tr := ⟨_, rfl⟩; rw [htr] at HFT; have htI : (t : Int) - (tr : Int) = (rm : Int) := (by omega); obtain ⟨u, hu⟩ : ∃ u, max f rm = u := ⟨_, rfl⟩; rw [hu] at HR; have hmx : max (f : Int) (rm : Int) = (u : Int) := (by omega); have hrmw : IntKind.i64.wrap (rm : Int) = (rm : Int) := (by rw [IntKind.wrap_i64]; omega); have hcb := HCB.out; have HU : Sl (f ≤ u ∧ u ≤ t ∧ u ≤ cb) := ⟨by omega⟩; have hfu : (f : Int) ≤ (u : Int) := (by omega); have hucb : (u : Int) ≤ (cb : Int) := (by omega); have hcut := ((HII.out.below (HO.out.1)).below HM.out.1).take HU.out.2.1 |>.drop (c := cb) HU.out.1 HU.out.2.2; have HCUT : Sl _ := ⟨hcut⟩; clear hcut hgr hrm htr hu hm' hm0
                  by_cases hcf : cb = f
                  · subst hcf; rw [if_pos rfl] at HCUT; go_wp2_with fail; refine HFT.out.mono ?_; rintro e w4 ⟨rfl, rfl⟩; go_wp2_with fail; refine (cloneII_any _ _ _ _ _ HCUT.out (by have := HN80.out; have := HU.out; omega)).mono ?_; rintro e w5 ⟨⟨A', c', rfl, zo⟩, zb⟩; have HOI : Sl (OI w5 wr.heap.size A' (u - cb) c' (cutL (ordL ws) (cb, u))) := ⟨zo.mono HM.out.1.size⟩; have HOG : Sl _ := ⟨HM.out.2.below zb⟩; have HBW : Sl (Below wr.heap.size wr w5) := ⟨HM.out.1.trans (zb.mono HM.out.1.size)⟩; have HKG : Sl (kg + 1 ≤ 1000000) := ⟨by have := HF.out.2; have := HST.out; omega⟩; clear zo zb HM HCUT HFT; go_wp2_with (at_builtin; go_loud (refine wpList_append_og rfl (.tmp 105) (.tmp 111) rfl wr.heap.size Gs kg cg LL rfl w5 43 ⟨A', u - cb, c', cutL (ordL ws) (cb, u)⟩ rfl HOG.out HOI.out rfl HKG.out HBW.out.size ?_); rintro G2 c2 w6 zo zg; have HZ : Sl _ := ⟨And.intro zo zg⟩; clear zo zg); have HB6 : Sl (Below wr.heap.size wr w6) := ⟨below_grown (HBW.out.alloc HBW.out.size _) HZ.out.2 (Nat.le_trans HBW.out.size (by simp)) (fun q hq => (World.ownsRow.lt HOG.out.row q hq).1)⟩; exact ⟨⟨m', u, G2, kg + 1, c2, LL ++ [⟨A', u - cb, c', cutL (ordL ws) (cb, u)⟩], _, by have := HMP.out; omega, rfl, rfl, rfl, rfl, ⟨HU.out.2.1, by have := HF.out.2; have := HMP.out; omega⟩, ⟨HB6.out, HZ.out.1⟩, ⟨by rw [← HR.out]; simp⟩⟩, by have := HMP.out; simp [RowKit.intOf]; omega⟩
                  · rw [if_neg hcf] at HCUT; go_wp2_with fail; refine HFT.out.mono ?_; rintro e w4 ⟨rfl, rfl⟩; go_wp2_with fail; refine (cloneII_any _ _ _ _ _ HCUT.out (by have := HN80.out; have := HU.out; omega)).mono ?_; rintro e w5 ⟨⟨A', c', rfl, zo⟩, zb⟩; have HOI : Sl (OI w5 wr.heap.size A' (u - f) c' (cutL (ordL ws) (f, u))) := ⟨zo.mono HM.out.1.size⟩; have HOG : Sl _ := ⟨HM.out.2.below zb⟩; have HBW : Sl (Below wr.heap.size wr w5) := ⟨HM.out.1.trans (zb.mono HM.out.1.size)⟩; have HKG : Sl (kg + 1 ≤ 1000000) := ⟨by have := HF.out.2; have := HST.out; omega⟩; clear zo zb HM HCUT HFT; go_wp2_with (at_builtin; go_loud (refine wpList_append_og rfl (.tmp 105) (.tmp 111) rfl wr.heap.size Gs kg cg LL rfl w5 43 ⟨A', u - f, c', cutL (ordL ws) (f, u)⟩ rfl HOG.out HOI.out rfl HKG.out HBW.out.size ?_); rintro G2 c2 w6 zo zg; have HZ : Sl _ := ⟨And.intro zo zg⟩; clear zo zg); have HB6 : Sl (Below wr.heap.size wr w6) := ⟨below_grown (HBW.out.alloc HBW.out.size _) HZ.out.2 (Nat.le_trans HBW.out.size (by simp)) (fun q hq => (World.ownsRow.lt HOG.out.row q hq).1)⟩; exact ⟨⟨m', u, G2, kg + 1, c2, LL ++ [⟨A', u - f, c', cutL (ordL ws) (f, u)⟩], _, by have := HMP.out; omega, rfl, rfl, rfl, rfl, ⟨HU.out.2.1, by have := HF.out.2; have := HMP.out; omega⟩, ⟨HB6.out, HZ.out.1⟩, ⟨by rw [← HR.out]; simp⟩⟩, by have := HMP.out; simp [RowKit.intOf]; omega⟩
theorem shPlanS (g : Nat) (w : World) (hB : Blk w g 2 #[.int .i64 5, .int .i64 1, .int .i64 3, .int .i64 4, .int .i64 2]) :
    Calls Tryz.prog 20 #[.slice (some ⟨g, 0, none⟩) 5 5, .int .i64 2] w fun e w' =>
      (∃ A c L, e = .returned (.tuple #[.slice A 2 c, .int .i64 9, .int .i64 0]) ∧ GG w' A 2 L ∧ L.map SlV.l = [[1, 4, 2], [3, 0]]) ∧ Below w.heap.size w w' := by
  refine (crPlanS_any (some ⟨g, 0, none⟩) 5 5 [5, 1, 3, 4, 2] 2 w (.of_blk hB rfl rfl) (by decide) (by decide) (by decide)).mono ?_; rintro e w' ⟨⟨A, k, c, L, h1, h2, h3⟩, hb⟩; rw [shPG] at h3; rw [shPS, shPE] at h1; have hk : k = 2 := (by rw [← h2.len]; have := congrArg List.length h3; rw [List.length_map] at this; exact this); subst hk; exact ⟨⟨A, c, L, h1, .of_og h2, h3⟩, hb⟩
set_option maxHeartbeats 12800000 in
set_option maxRecDepth 100000 in
theorem shownS_any (w : World) : Calls Tryz.prog 11 #[] w fun e w' => e = .returned (.bool true) ∧ Below w.heap.size w w' := by
  go_enter Tryz.func11, Tryz.ntmps11; go_wp2_with fail; refine (example_any _).mono ?_; rintro e wE ⟨⟨A1, A2, A3, A4, P1, P2, P3, rfl, hm⟩, hb⟩; have HBE : Sl (Below w.heap.size w wE) := ⟨hb⟩; have HM : Sl _ := ⟨hm⟩; have HD : Sl (Lg wE wE []) := ⟨Lg.nil wE⟩; clear hm hb
  go_upto_region 2 with ((with_reducible show wpList _ _ _ _ _ _); first
    | (refine wpList_alloc_new 1 rfl rfl 33 rfl #[.slice none 0 0, .slice none 0 0, .slice none 0 0, .slice none 0 0] alloc_spec ?_; rintro w1 g1 zg zm zs zb; replace HD : Sl _ := ⟨HD.out.new zg zm zb⟩; clear zg zm zs zb)
    | (refine wpList_store_whole rfl 33 (.tmp 1) (.tmp 11) rfl g1 #[.slice A1 1 1, .slice A2 2 2, .slice A3 3 3, .slice A4 1 1] rfl rfl 33 _ (HD.out.at_ 0 rfl) rfl (by kernel_rfl) (by simp [Value.oneCell']) ?_; rintro w2 zm zs zb; replace HD : Sl _ := ⟨HD.out.upd zm zb⟩; clear zm zs zb))
  simp only [Act.put, sS0, sS1, sS2]
  go_cut [2, 3] from 13 to 19 (fun s2 s3 wx => ∃ (g2 : Nat) (A B : Option Addr) (n c m d : Nat), s2 = .pointer (some ⟨g2, 0, none⟩) ∧ s3 = .int .i64 0 ∧ Sl (Lg wE wx [(g2, 45, #[.slice A n c, .slice B m d]), (g1, 33, #[.slice A1 1 1, .slice A2 2 2, .slice A3 3 3, .slice A4 1 1])] ∧ RgM wx ⟨A, n, c, [0, 1, 2], B, m, d, [0]⟩))
  case first =>
    have hS0 : Below wE.heap.size wE w2.drew ∧ Blk w2.drew g1 33 #[.slice A1 1 1, .slice A2 2 2, .slice A3 3 3, .slice A4 1 1] := ⟨HD.out.bl.trans ((below_drewN (Below.refl _ _) 1).mono HD.out.bl.size), HD.out.at_ 0 rfl⟩; replace HD : Sl (Lg wE w2.drew [(g1, 33, #[.slice A1 1 1, .slice A2 2 2, .slice A3 3 3, .slice A4 1 1])]) := ⟨HD.out.below (below_drewN (Below.refl _ _) 1)⟩; have hm := hS0; refine wp_region_held_drew (S := fun w' => Below wE.heap.size wE w' ∧ Blk w' g1 33 #[.slice A1 1 1, .slice A2 2 2, .slice A3 3 3, .slice A4 1 1]) (by kernel_rfl) hm (fun hHeld => ?_); clear hm; refine wpAnyH_load 0 33 (.tmp 1) rfl rfl rfl g1 0 rfl #[.slice A1 1 1, .slice A2 2 2, .slice A3 3 3, .slice A4 1 1] _ (fun w' h => by have := World.rangeAt_of_block h.2 0 4; exact this) Tryz.underlying33 rfl (by kernel_rfl) (by kernel_rfl) (by kernel_rfl) (by kernel_rfl) (fun _ _ _ h => h) (by assumption) ?_; simp only [Act.put, sS0, sS1, sS2]; refine wpAnyH_threem 1 2 8 rfl rfl rfl (by kernel_rfl) rfl rfl rfl (fun K hK => ?_) (fun K hK => ?_) (fun K hK => ?_) 
    · skip; go_simp; go_at_call 18
      (with_reducible refine (table_any _).mono ?_)
      rintro e w10 ⟨⟨T, a, b, c, d, rfl, ht⟩, hb⟩; replace HD : Sl _ := ⟨HD.out.below hb⟩; have HT : Sl _ := ⟨ht⟩; clear hb ht; refine hK.out _ _ ⟨HD.out.bl, HD.out.at_ 0 rfl⟩ (fun hHeld => ?_); clear hK K
      (try simp only [Act.put, sS0, sS1, sS2])
      refine wpAnyH_twom 2 8 rfl rfl (by kernel_rfl) rfl rfl (fun K hK => ?_) (fun K hK => ?_) 
      · skip; refine wp_newblk (fun g => .slice (some ⟨g, 0, none⟩) 1 1) 3 #[.int .i64 1] (fun _ => by kernel_rfl) ?_; rintro w11 ga zg zm zw zb; replace HD : Sl _ := ⟨HD.out.new zg zm zb⟩; replace HT : Sl _ := ⟨HT.out.below zw⟩; clear zg zm zw zb; refine hK.out _ _ ⟨HD.out.bl, HD.out.at_ 1 rfl⟩ (fun hHeld => ?_); clear hK K
        (try simp only [Act.put, sS0, sS1, sS2])
        refine wpAnyH_pure 3 (v := .agg #[.slice (some ⟨ga, 0, none⟩) 1 1, .slice none 0 0]) rfl (by kernel_rfl) (by kernel_rfl) (by kernel_rfl) (fun _ _ _ h => h) rfl (fun _ => by go_simp) (by assumption) ?_; simp only [Act.put, sS0, sS1, sS2]; refine wpAnyH_twom 4 8 rfl rfl (by kernel_rfl) rfl rfl (fun K hK => ?_) (fun K hK => ?_) 
        · skip; go_simp; go_at_call 17
          (with_reducible refine (shAt A1 A2 A3 A4 P1 P2 P3 T a b c d ga _ (HM.out.below HD.out.bl) HT.out (HD.out.at_ 0 rfl)).mono ?_)
          rintro e w12 ⟨⟨A, n, c, B, m, d', rfl, hr⟩, hb⟩; replace HD : Sl _ := ⟨HD.out.below hb⟩; have HR : Sl _ := ⟨hr⟩; clear hb hr HT; refine hK.out _ _ ⟨HD.out.bl, HD.out.at_ 1 rfl⟩ (fun hHeld => ?_); clear hK K
          (try simp only [Act.put, sS0, sS1, sS2])
          refine wpAnyH_pure 5 (v := .tuple #[.agg #[.slice A n c, .slice B m d'], .int .i64 0]) rfl (by kernel_rfl) (by kernel_rfl) (by kernel_rfl) (fun _ _ _ h => h) rfl (fun _ => rfl) (by assumption) ?_; simp only [Act.put, sS0, sS1, sS2]; refine wpAnyH_pure 6 (v := .agg #[.slice A n c, .slice B m d']) rfl (by kernel_rfl) (by kernel_rfl) (by kernel_rfl) (fun _ _ _ h => h) rfl (fun _ => by go_simp) (by assumption) ?_; simp only [Act.put, sS0, sS1, sS2]; refine wpAnyH_pure 7 (v := .int .i64 0) rfl (by kernel_rfl) (by kernel_rfl) (by kernel_rfl) (fun _ _ _ h => h) rfl (fun _ => by go_simp) (by assumption) ?_; simp only [Act.put, sS0, sS1, sS2]; refine wpAnyH_one 8 rfl (by kernel_rfl) rfl (fun K hK => ?_); refine wp_newblk (fun g => .pointer (some ⟨g, 0, none⟩)) 45 #[.slice none 0 0, .slice none 0 0] (fun _ => by kernel_rfl) ?_; rintro w13 g2 zg zm zw zb; replace HD : Sl _ := ⟨HD.out.new zg zm zb⟩; replace HR : Sl _ := ⟨HR.out.below zw⟩; clear zg zm zw zb; refine hK.out _ _ ⟨HD.out.bl, HD.out.at_ 2 rfl⟩ (fun hHeld => ?_); clear hK K
          (try simp only [Act.put, sS0, sS1, sS2])
          refine wpAnyH_one 9 rfl (by kernel_rfl) rfl (fun K hK => ?_); refine wp_store_partm 45 (.tmp 2) (.tmp 18) rfl g2 0 #[.slice A n c, .slice B m d'] rfl rfl 45 _ #[.slice A n c, .slice B m d'] (HD.out.at_ 0 rfl) (by simp) (putA_all _ _ rfl) (by kernel_rfl) (by simp [Value.oneCell']) ?_; rintro w14 zm zs zb; replace HR : Sl _ := ⟨HR.out.mvR (HD.out.at_ 0 rfl) zm⟩; replace HD : Sl _ := ⟨HD.out.set 0 rfl zm zb⟩; clear zm zs zb; refine hK.out _ _ ⟨HD.out.bl, HD.out.at_ 2 rfl⟩ (fun hHeld => ?_); clear hK K
          (try simp only [Act.put, sS0, sS1, sS2])
          refine wpAnyH_pure 10 (v := .int .i64 0) rfl (by kernel_rfl) (by kernel_rfl) (by kernel_rfl) (fun _ _ _ h => h) rfl (fun _ => rfl) (by assumption) ?_; simp only [Act.put, sS0, sS1, sS2]; refine wpAnyH_done (by kernel_rfl) ?_ _
          (try go_wp2_with fail)
          go_meet
          exact ⟨g2, A, B, n, c, m, d', rfl, rfl, ⟨HD.out.two 0 2 rfl rfl (by decide), HR.out⟩⟩
        · skip; refine wp_newblk (fun g => .pointer (some ⟨g, 0, none⟩)) 45 #[.slice none 0 0, .slice none 0 0] (fun _ => by kernel_rfl) ?_; rintro w15 g2 zg zm zw zb; replace HD : Sl _ := ⟨HD.out.new zg zm zb⟩; replace HT : Sl _ := ⟨HT.out.below zw⟩; clear zg zm zw zb; refine hK.out _ _ ⟨HD.out.bl, HD.out.at_ 2 rfl⟩ (fun hHeld => ?_); clear hK K
          (try simp only [Act.put, sS0, sS1, sS2])
          refine wpAnyH_one 4 rfl (by kernel_rfl) rfl (fun K hK => ?_); go_simp; go_at_call 17
          (with_reducible refine (shAt A1 A2 A3 A4 P1 P2 P3 T a b c d ga _ (HM.out.below HD.out.bl) HT.out (HD.out.at_ 1 rfl)).mono ?_)
          rintro e w16 ⟨⟨A, n, c, B, m, d', rfl, hr⟩, hb⟩; replace HD : Sl _ := ⟨HD.out.below hb⟩; have HR : Sl _ := ⟨hr⟩; clear hb hr HT; refine hK.out _ _ ⟨HD.out.bl, HD.out.at_ 2 rfl⟩ (fun hHeld => ?_); clear hK K
          (try simp only [Act.put, sS0, sS1, sS2])
          refine wpAnyH_pure 5 (v := .tuple #[.agg #[.slice A n c, .slice B m d'], .int .i64 0]) rfl (by kernel_rfl) (by kernel_rfl) (by kernel_rfl) (fun _ _ _ h => h) rfl (fun _ => rfl) (by assumption) ?_; simp only [Act.put, sS0, sS1, sS2]; refine wpAnyH_pure 6 (v := .agg #[.slice A n c, .slice B m d']) rfl (by kernel_rfl) (by kernel_rfl) (by kernel_rfl) (fun _ _ _ h => h) rfl (fun _ => by go_simp) (by assumption) ?_; simp only [Act.put, sS0, sS1, sS2]; refine wpAnyH_pure 7 (v := .int .i64 0) rfl (by kernel_rfl) (by kernel_rfl) (by kernel_rfl) (fun _ _ _ h => h) rfl (fun _ => by go_simp) (by assumption) ?_; simp only [Act.put, sS0, sS1, sS2]; refine wpAnyH_one 9 rfl (by kernel_rfl) rfl (fun K hK => ?_); refine wp_store_partm 45 (.tmp 2) (.tmp 18) rfl g2 0 #[.slice A n c, .slice B m d'] rfl rfl 45 _ #[.slice A n c, .slice B m d'] (HD.out.at_ 0 rfl) (by simp) (putA_all _ _ rfl) (by kernel_rfl) (by simp [Value.oneCell']) ?_; rintro w17 zm zs zb; replace HR : Sl _ := ⟨HR.out.mvR (HD.out.at_ 0 rfl) zm⟩; replace HD : Sl _ := ⟨HD.out.set 0 rfl zm zb⟩; clear zm zs zb; refine hK.out _ _ ⟨HD.out.bl, HD.out.at_ 2 rfl⟩ (fun hHeld => ?_); clear hK K
          (try simp only [Act.put, sS0, sS1, sS2])
          refine wpAnyH_pure 10 (v := .int .i64 0) rfl (by kernel_rfl) (by kernel_rfl) (by kernel_rfl) (fun _ _ _ h => h) rfl (fun _ => rfl) (by assumption) ?_; simp only [Act.put, sS0, sS1, sS2]; refine wpAnyH_done (by kernel_rfl) ?_ _
          (try go_wp2_with fail)
          go_meet
          exact ⟨g2, A, B, n, c, m, d', rfl, rfl, ⟨HD.out.two 0 2 rfl rfl (by decide), HR.out⟩⟩
      · skip; refine wp_newblk (fun g => .pointer (some ⟨g, 0, none⟩)) 45 #[.slice none 0 0, .slice none 0 0] (fun _ => by kernel_rfl) ?_; rintro w18 g2 zg zm zw zb; replace HD : Sl _ := ⟨HD.out.new zg zm zb⟩; replace HT : Sl _ := ⟨HT.out.below zw⟩; clear zg zm zw zb; refine hK.out _ _ ⟨HD.out.bl, HD.out.at_ 1 rfl⟩ (fun hHeld => ?_); clear hK K
        (try simp only [Act.put, sS0, sS1, sS2])
        refine wpAnyH_one 2 rfl (by kernel_rfl) rfl (fun K hK => ?_); refine wp_newblk (fun g => .slice (some ⟨g, 0, none⟩) 1 1) 3 #[.int .i64 1] (fun _ => by kernel_rfl) ?_; rintro w19 ga zg zm zw zb; replace HD : Sl _ := ⟨HD.out.new zg zm zb⟩; replace HT : Sl _ := ⟨HT.out.below zw⟩; clear zg zm zw zb; refine hK.out _ _ ⟨HD.out.bl, HD.out.at_ 2 rfl⟩ (fun hHeld => ?_); clear hK K
        (try simp only [Act.put, sS0, sS1, sS2])
        refine wpAnyH_pure 3 (v := .agg #[.slice (some ⟨ga, 0, none⟩) 1 1, .slice none 0 0]) rfl (by kernel_rfl) (by kernel_rfl) (by kernel_rfl) (fun _ _ _ h => h) rfl (fun _ => by go_simp) (by assumption) ?_; simp only [Act.put, sS0, sS1, sS2]; refine wpAnyH_one 4 rfl (by kernel_rfl) rfl (fun K hK => ?_); go_simp; go_at_call 17
        (with_reducible refine (shAt A1 A2 A3 A4 P1 P2 P3 T a b c d ga _ (HM.out.below HD.out.bl) HT.out (HD.out.at_ 0 rfl)).mono ?_)
        rintro e w20 ⟨⟨A, n, c, B, m, d', rfl, hr⟩, hb⟩; replace HD : Sl _ := ⟨HD.out.below hb⟩; have HR : Sl _ := ⟨hr⟩; clear hb hr HT; refine hK.out _ _ ⟨HD.out.bl, HD.out.at_ 2 rfl⟩ (fun hHeld => ?_); clear hK K
        (try simp only [Act.put, sS0, sS1, sS2])
        refine wpAnyH_pure 5 (v := .tuple #[.agg #[.slice A n c, .slice B m d'], .int .i64 0]) rfl (by kernel_rfl) (by kernel_rfl) (by kernel_rfl) (fun _ _ _ h => h) rfl (fun _ => rfl) (by assumption) ?_; simp only [Act.put, sS0, sS1, sS2]; refine wpAnyH_pure 6 (v := .agg #[.slice A n c, .slice B m d']) rfl (by kernel_rfl) (by kernel_rfl) (by kernel_rfl) (fun _ _ _ h => h) rfl (fun _ => by go_simp) (by assumption) ?_; simp only [Act.put, sS0, sS1, sS2]; refine wpAnyH_pure 7 (v := .int .i64 0) rfl (by kernel_rfl) (by kernel_rfl) (by kernel_rfl) (fun _ _ _ h => h) rfl (fun _ => by go_simp) (by assumption) ?_; simp only [Act.put, sS0, sS1, sS2]; refine wpAnyH_one 9 rfl (by kernel_rfl) rfl (fun K hK => ?_); refine wp_store_partm 45 (.tmp 2) (.tmp 18) rfl g2 0 #[.slice A n c, .slice B m d'] rfl rfl 45 _ #[.slice A n c, .slice B m d'] (HD.out.at_ 1 rfl) (by simp) (putA_all _ _ rfl) (by kernel_rfl) (by simp [Value.oneCell']) ?_; rintro w21 zm zs zb; replace HR : Sl _ := ⟨HR.out.mvR (HD.out.at_ 1 rfl) zm⟩; replace HD : Sl _ := ⟨HD.out.set 1 rfl zm zb⟩; clear zm zs zb; refine hK.out _ _ ⟨HD.out.bl, HD.out.at_ 2 rfl⟩ (fun hHeld => ?_); clear hK K
        (try simp only [Act.put, sS0, sS1, sS2])
        refine wpAnyH_pure 10 (v := .int .i64 0) rfl (by kernel_rfl) (by kernel_rfl) (by kernel_rfl) (fun _ _ _ h => h) rfl (fun _ => rfl) (by assumption) ?_; simp only [Act.put, sS0, sS1, sS2]; refine wpAnyH_done (by kernel_rfl) ?_ _
        (try go_wp2_with fail)
        go_meet
        exact ⟨g2, A, B, n, c, m, d', rfl, rfl, ⟨HD.out.two 1 2 rfl rfl (by decide), HR.out⟩⟩
    · skip; refine wp_newblk (fun g => .slice (some ⟨g, 0, none⟩) 1 1) 3 #[.int .i64 1] (fun _ => by kernel_rfl) ?_; rintro w22 ga zg zm zw zb; replace HD : Sl _ := ⟨HD.out.new zg zm zb⟩; clear zg zm zw zb; refine hK.out _ _ ⟨HD.out.bl, HD.out.at_ 1 rfl⟩ (fun hHeld => ?_); clear hK K
      (try simp only [Act.put, sS0, sS1, sS2])
      refine wpAnyH_pure 3 (v := .agg #[.slice (some ⟨ga, 0, none⟩) 1 1, .slice none 0 0]) rfl (by kernel_rfl) (by kernel_rfl) (by kernel_rfl) (fun _ _ _ h => h) rfl (fun _ => by go_simp) (by assumption) ?_; simp only [Act.put, sS0, sS1, sS2]; refine wpAnyH_twom 1 8 rfl rfl (by kernel_rfl) rfl rfl (fun K hK => ?_) (fun K hK => ?_) 
      · skip; go_simp; go_at_call 18
        (with_reducible refine (table_any _).mono ?_)
        rintro e w23 ⟨⟨T, a, b, c, d, rfl, ht⟩, hb⟩; replace HD : Sl _ := ⟨HD.out.below hb⟩; have HT : Sl _ := ⟨ht⟩; clear hb ht; refine hK.out _ _ ⟨HD.out.bl, HD.out.at_ 1 rfl⟩ (fun hHeld => ?_); clear hK K
        (try simp only [Act.put, sS0, sS1, sS2])
        refine wpAnyH_twom 4 8 rfl rfl (by kernel_rfl) rfl rfl (fun K hK => ?_) (fun K hK => ?_) 
        · skip; go_simp; go_at_call 17
          (with_reducible refine (shAt A1 A2 A3 A4 P1 P2 P3 T a b c d ga _ (HM.out.below HD.out.bl) HT.out (HD.out.at_ 0 rfl)).mono ?_)
          rintro e w24 ⟨⟨A, n, c, B, m, d', rfl, hr⟩, hb⟩; replace HD : Sl _ := ⟨HD.out.below hb⟩; have HR : Sl _ := ⟨hr⟩; clear hb hr HT; refine hK.out _ _ ⟨HD.out.bl, HD.out.at_ 1 rfl⟩ (fun hHeld => ?_); clear hK K
          (try simp only [Act.put, sS0, sS1, sS2])
          refine wpAnyH_pure 5 (v := .tuple #[.agg #[.slice A n c, .slice B m d'], .int .i64 0]) rfl (by kernel_rfl) (by kernel_rfl) (by kernel_rfl) (fun _ _ _ h => h) rfl (fun _ => rfl) (by assumption) ?_; simp only [Act.put, sS0, sS1, sS2]; refine wpAnyH_pure 6 (v := .agg #[.slice A n c, .slice B m d']) rfl (by kernel_rfl) (by kernel_rfl) (by kernel_rfl) (fun _ _ _ h => h) rfl (fun _ => by go_simp) (by assumption) ?_; simp only [Act.put, sS0, sS1, sS2]; refine wpAnyH_pure 7 (v := .int .i64 0) rfl (by kernel_rfl) (by kernel_rfl) (by kernel_rfl) (fun _ _ _ h => h) rfl (fun _ => by go_simp) (by assumption) ?_; simp only [Act.put, sS0, sS1, sS2]; refine wpAnyH_one 8 rfl (by kernel_rfl) rfl (fun K hK => ?_); refine wp_newblk (fun g => .pointer (some ⟨g, 0, none⟩)) 45 #[.slice none 0 0, .slice none 0 0] (fun _ => by kernel_rfl) ?_; rintro w25 g2 zg zm zw zb; replace HD : Sl _ := ⟨HD.out.new zg zm zb⟩; replace HR : Sl _ := ⟨HR.out.below zw⟩; clear zg zm zw zb; refine hK.out _ _ ⟨HD.out.bl, HD.out.at_ 2 rfl⟩ (fun hHeld => ?_); clear hK K
          (try simp only [Act.put, sS0, sS1, sS2])
          refine wpAnyH_one 9 rfl (by kernel_rfl) rfl (fun K hK => ?_); refine wp_store_partm 45 (.tmp 2) (.tmp 18) rfl g2 0 #[.slice A n c, .slice B m d'] rfl rfl 45 _ #[.slice A n c, .slice B m d'] (HD.out.at_ 0 rfl) (by simp) (putA_all _ _ rfl) (by kernel_rfl) (by simp [Value.oneCell']) ?_; rintro w26 zm zs zb; replace HR : Sl _ := ⟨HR.out.mvR (HD.out.at_ 0 rfl) zm⟩; replace HD : Sl _ := ⟨HD.out.set 0 rfl zm zb⟩; clear zm zs zb; refine hK.out _ _ ⟨HD.out.bl, HD.out.at_ 2 rfl⟩ (fun hHeld => ?_); clear hK K
          (try simp only [Act.put, sS0, sS1, sS2])
          refine wpAnyH_pure 10 (v := .int .i64 0) rfl (by kernel_rfl) (by kernel_rfl) (by kernel_rfl) (fun _ _ _ h => h) rfl (fun _ => rfl) (by assumption) ?_; simp only [Act.put, sS0, sS1, sS2]; refine wpAnyH_done (by kernel_rfl) ?_ _
          (try go_wp2_with fail)
          go_meet
          exact ⟨g2, A, B, n, c, m, d', rfl, rfl, ⟨HD.out.two 0 2 rfl rfl (by decide), HR.out⟩⟩
        · skip; refine wp_newblk (fun g => .pointer (some ⟨g, 0, none⟩)) 45 #[.slice none 0 0, .slice none 0 0] (fun _ => by kernel_rfl) ?_; rintro w27 g2 zg zm zw zb; replace HD : Sl _ := ⟨HD.out.new zg zm zb⟩; replace HT : Sl _ := ⟨HT.out.below zw⟩; clear zg zm zw zb; refine hK.out _ _ ⟨HD.out.bl, HD.out.at_ 2 rfl⟩ (fun hHeld => ?_); clear hK K
          (try simp only [Act.put, sS0, sS1, sS2])
          refine wpAnyH_one 4 rfl (by kernel_rfl) rfl (fun K hK => ?_); go_simp; go_at_call 17
          (with_reducible refine (shAt A1 A2 A3 A4 P1 P2 P3 T a b c d ga _ (HM.out.below HD.out.bl) HT.out (HD.out.at_ 1 rfl)).mono ?_)
          rintro e w28 ⟨⟨A, n, c, B, m, d', rfl, hr⟩, hb⟩; replace HD : Sl _ := ⟨HD.out.below hb⟩; have HR : Sl _ := ⟨hr⟩; clear hb hr HT; refine hK.out _ _ ⟨HD.out.bl, HD.out.at_ 2 rfl⟩ (fun hHeld => ?_); clear hK K
          (try simp only [Act.put, sS0, sS1, sS2])
          refine wpAnyH_pure 5 (v := .tuple #[.agg #[.slice A n c, .slice B m d'], .int .i64 0]) rfl (by kernel_rfl) (by kernel_rfl) (by kernel_rfl) (fun _ _ _ h => h) rfl (fun _ => rfl) (by assumption) ?_; simp only [Act.put, sS0, sS1, sS2]; refine wpAnyH_pure 6 (v := .agg #[.slice A n c, .slice B m d']) rfl (by kernel_rfl) (by kernel_rfl) (by kernel_rfl) (fun _ _ _ h => h) rfl (fun _ => by go_simp) (by assumption) ?_; simp only [Act.put, sS0, sS1, sS2]; refine wpAnyH_pure 7 (v := .int .i64 0) rfl (by kernel_rfl) (by kernel_rfl) (by kernel_rfl) (fun _ _ _ h => h) rfl (fun _ => by go_simp) (by assumption) ?_; simp only [Act.put, sS0, sS1, sS2]; refine wpAnyH_one 9 rfl (by kernel_rfl) rfl (fun K hK => ?_); refine wp_store_partm 45 (.tmp 2) (.tmp 18) rfl g2 0 #[.slice A n c, .slice B m d'] rfl rfl 45 _ #[.slice A n c, .slice B m d'] (HD.out.at_ 0 rfl) (by simp) (putA_all _ _ rfl) (by kernel_rfl) (by simp [Value.oneCell']) ?_; rintro w29 zm zs zb; replace HR : Sl _ := ⟨HR.out.mvR (HD.out.at_ 0 rfl) zm⟩; replace HD : Sl _ := ⟨HD.out.set 0 rfl zm zb⟩; clear zm zs zb; refine hK.out _ _ ⟨HD.out.bl, HD.out.at_ 2 rfl⟩ (fun hHeld => ?_); clear hK K
          (try simp only [Act.put, sS0, sS1, sS2])
          refine wpAnyH_pure 10 (v := .int .i64 0) rfl (by kernel_rfl) (by kernel_rfl) (by kernel_rfl) (fun _ _ _ h => h) rfl (fun _ => rfl) (by assumption) ?_; simp only [Act.put, sS0, sS1, sS2]; refine wpAnyH_done (by kernel_rfl) ?_ _
          (try go_wp2_with fail)
          go_meet
          exact ⟨g2, A, B, n, c, m, d', rfl, rfl, ⟨HD.out.two 0 2 rfl rfl (by decide), HR.out⟩⟩
      · skip; refine wp_newblk (fun g => .pointer (some ⟨g, 0, none⟩)) 45 #[.slice none 0 0, .slice none 0 0] (fun _ => by kernel_rfl) ?_; rintro w30 g2 zg zm zw zb; replace HD : Sl _ := ⟨HD.out.new zg zm zb⟩; clear zg zm zw zb; refine hK.out _ _ ⟨HD.out.bl, HD.out.at_ 2 rfl⟩ (fun hHeld => ?_); clear hK K
        (try simp only [Act.put, sS0, sS1, sS2])
        refine wpAnyH_one 1 rfl (by kernel_rfl) rfl (fun K hK => ?_); go_simp; go_at_call 18
        (with_reducible refine (table_any _).mono ?_)
        rintro e w31 ⟨⟨T, a, b, c, d, rfl, ht⟩, hb⟩; replace HD : Sl _ := ⟨HD.out.below hb⟩; have HT : Sl _ := ⟨ht⟩; clear hb ht; refine hK.out _ _ ⟨HD.out.bl, HD.out.at_ 2 rfl⟩ (fun hHeld => ?_); clear hK K
        (try simp only [Act.put, sS0, sS1, sS2])
        refine wpAnyH_one 4 rfl (by kernel_rfl) rfl (fun K hK => ?_); go_simp; go_at_call 17
        (with_reducible refine (shAt A1 A2 A3 A4 P1 P2 P3 T a b c d ga _ (HM.out.below HD.out.bl) HT.out (HD.out.at_ 1 rfl)).mono ?_)
        rintro e w32 ⟨⟨A, n, c, B, m, d', rfl, hr⟩, hb⟩; replace HD : Sl _ := ⟨HD.out.below hb⟩; have HR : Sl _ := ⟨hr⟩; clear hb hr HT; refine hK.out _ _ ⟨HD.out.bl, HD.out.at_ 2 rfl⟩ (fun hHeld => ?_); clear hK K
        (try simp only [Act.put, sS0, sS1, sS2])
        refine wpAnyH_pure 5 (v := .tuple #[.agg #[.slice A n c, .slice B m d'], .int .i64 0]) rfl (by kernel_rfl) (by kernel_rfl) (by kernel_rfl) (fun _ _ _ h => h) rfl (fun _ => rfl) (by assumption) ?_; simp only [Act.put, sS0, sS1, sS2]; refine wpAnyH_pure 6 (v := .agg #[.slice A n c, .slice B m d']) rfl (by kernel_rfl) (by kernel_rfl) (by kernel_rfl) (fun _ _ _ h => h) rfl (fun _ => by go_simp) (by assumption) ?_; simp only [Act.put, sS0, sS1, sS2]; refine wpAnyH_pure 7 (v := .int .i64 0) rfl (by kernel_rfl) (by kernel_rfl) (by kernel_rfl) (fun _ _ _ h => h) rfl (fun _ => by go_simp) (by assumption) ?_; simp only [Act.put, sS0, sS1, sS2]; refine wpAnyH_one 9 rfl (by kernel_rfl) rfl (fun K hK => ?_); refine wp_store_partm 45 (.tmp 2) (.tmp 18) rfl g2 0 #[.slice A n c, .slice B m d'] rfl rfl 45 _ #[.slice A n c, .slice B m d'] (HD.out.at_ 0 rfl) (by simp) (putA_all _ _ rfl) (by kernel_rfl) (by simp [Value.oneCell']) ?_; rintro w33 zm zs zb; replace HR : Sl _ := ⟨HR.out.mvR (HD.out.at_ 0 rfl) zm⟩; replace HD : Sl _ := ⟨HD.out.set 0 rfl zm zb⟩; clear zm zs zb; refine hK.out _ _ ⟨HD.out.bl, HD.out.at_ 2 rfl⟩ (fun hHeld => ?_); clear hK K
        (try simp only [Act.put, sS0, sS1, sS2])
        refine wpAnyH_pure 10 (v := .int .i64 0) rfl (by kernel_rfl) (by kernel_rfl) (by kernel_rfl) (fun _ _ _ h => h) rfl (fun _ => rfl) (by assumption) ?_; simp only [Act.put, sS0, sS1, sS2]; refine wpAnyH_done (by kernel_rfl) ?_ _
        (try go_wp2_with fail)
        go_meet
        exact ⟨g2, A, B, n, c, m, d', rfl, rfl, ⟨HD.out.two 0 2 rfl rfl (by decide), HR.out⟩⟩
    · skip; refine wp_newblk (fun g => .pointer (some ⟨g, 0, none⟩)) 45 #[.slice none 0 0, .slice none 0 0] (fun _ => by kernel_rfl) ?_; rintro w34 g2 zg zm zw zb; replace HD : Sl _ := ⟨HD.out.new zg zm zb⟩; clear zg zm zw zb; refine hK.out _ _ ⟨HD.out.bl, HD.out.at_ 1 rfl⟩ (fun hHeld => ?_); clear hK K
      (try simp only [Act.put, sS0, sS1, sS2])
      refine wpAnyH_twom 1 2 rfl rfl (by kernel_rfl) rfl rfl (fun K hK => ?_) (fun K hK => ?_) 
      · skip; go_simp; go_at_call 18
        (with_reducible refine (table_any _).mono ?_)
        rintro e w35 ⟨⟨T, a, b, c, d, rfl, ht⟩, hb⟩; replace HD : Sl _ := ⟨HD.out.below hb⟩; have HT : Sl _ := ⟨ht⟩; clear hb ht; refine hK.out _ _ ⟨HD.out.bl, HD.out.at_ 1 rfl⟩ (fun hHeld => ?_); clear hK K
        (try simp only [Act.put, sS0, sS1, sS2])
        refine wpAnyH_one 2 rfl (by kernel_rfl) rfl (fun K hK => ?_); refine wp_newblk (fun g => .slice (some ⟨g, 0, none⟩) 1 1) 3 #[.int .i64 1] (fun _ => by kernel_rfl) ?_; rintro w36 ga zg zm zw zb; replace HD : Sl _ := ⟨HD.out.new zg zm zb⟩; replace HT : Sl _ := ⟨HT.out.below zw⟩; clear zg zm zw zb; refine hK.out _ _ ⟨HD.out.bl, HD.out.at_ 2 rfl⟩ (fun hHeld => ?_); clear hK K
        (try simp only [Act.put, sS0, sS1, sS2])
        refine wpAnyH_pure 3 (v := .agg #[.slice (some ⟨ga, 0, none⟩) 1 1, .slice none 0 0]) rfl (by kernel_rfl) (by kernel_rfl) (by kernel_rfl) (fun _ _ _ h => h) rfl (fun _ => by go_simp) (by assumption) ?_; simp only [Act.put, sS0, sS1, sS2]; refine wpAnyH_one 4 rfl (by kernel_rfl) rfl (fun K hK => ?_); go_simp; go_at_call 17
        (with_reducible refine (shAt A1 A2 A3 A4 P1 P2 P3 T a b c d ga _ (HM.out.below HD.out.bl) HT.out (HD.out.at_ 0 rfl)).mono ?_)
        rintro e w37 ⟨⟨A, n, c, B, m, d', rfl, hr⟩, hb⟩; replace HD : Sl _ := ⟨HD.out.below hb⟩; have HR : Sl _ := ⟨hr⟩; clear hb hr HT; refine hK.out _ _ ⟨HD.out.bl, HD.out.at_ 2 rfl⟩ (fun hHeld => ?_); clear hK K
        (try simp only [Act.put, sS0, sS1, sS2])
        refine wpAnyH_pure 5 (v := .tuple #[.agg #[.slice A n c, .slice B m d'], .int .i64 0]) rfl (by kernel_rfl) (by kernel_rfl) (by kernel_rfl) (fun _ _ _ h => h) rfl (fun _ => rfl) (by assumption) ?_; simp only [Act.put, sS0, sS1, sS2]; refine wpAnyH_pure 6 (v := .agg #[.slice A n c, .slice B m d']) rfl (by kernel_rfl) (by kernel_rfl) (by kernel_rfl) (fun _ _ _ h => h) rfl (fun _ => by go_simp) (by assumption) ?_; simp only [Act.put, sS0, sS1, sS2]; refine wpAnyH_pure 7 (v := .int .i64 0) rfl (by kernel_rfl) (by kernel_rfl) (by kernel_rfl) (fun _ _ _ h => h) rfl (fun _ => by go_simp) (by assumption) ?_; simp only [Act.put, sS0, sS1, sS2]; refine wpAnyH_one 9 rfl (by kernel_rfl) rfl (fun K hK => ?_); refine wp_store_partm 45 (.tmp 2) (.tmp 18) rfl g2 0 #[.slice A n c, .slice B m d'] rfl rfl 45 _ #[.slice A n c, .slice B m d'] (HD.out.at_ 1 rfl) (by simp) (putA_all _ _ rfl) (by kernel_rfl) (by simp [Value.oneCell']) ?_; rintro w38 zm zs zb; replace HR : Sl _ := ⟨HR.out.mvR (HD.out.at_ 1 rfl) zm⟩; replace HD : Sl _ := ⟨HD.out.set 1 rfl zm zb⟩; clear zm zs zb; refine hK.out _ _ ⟨HD.out.bl, HD.out.at_ 2 rfl⟩ (fun hHeld => ?_); clear hK K
        (try simp only [Act.put, sS0, sS1, sS2])
        refine wpAnyH_pure 10 (v := .int .i64 0) rfl (by kernel_rfl) (by kernel_rfl) (by kernel_rfl) (fun _ _ _ h => h) rfl (fun _ => rfl) (by assumption) ?_; simp only [Act.put, sS0, sS1, sS2]; refine wpAnyH_done (by kernel_rfl) ?_ _
        (try go_wp2_with fail)
        go_meet
        exact ⟨g2, A, B, n, c, m, d', rfl, rfl, ⟨HD.out.two 1 2 rfl rfl (by decide), HR.out⟩⟩
      · skip; refine wp_newblk (fun g => .slice (some ⟨g, 0, none⟩) 1 1) 3 #[.int .i64 1] (fun _ => by kernel_rfl) ?_; rintro w39 ga zg zm zw zb; replace HD : Sl _ := ⟨HD.out.new zg zm zb⟩; clear zg zm zw zb; refine hK.out _ _ ⟨HD.out.bl, HD.out.at_ 2 rfl⟩ (fun hHeld => ?_); clear hK K
        (try simp only [Act.put, sS0, sS1, sS2])
        refine wpAnyH_pure 3 (v := .agg #[.slice (some ⟨ga, 0, none⟩) 1 1, .slice none 0 0]) rfl (by kernel_rfl) (by kernel_rfl) (by kernel_rfl) (fun _ _ _ h => h) rfl (fun _ => by go_simp) (by assumption) ?_; simp only [Act.put, sS0, sS1, sS2]; refine wpAnyH_one 1 rfl (by kernel_rfl) rfl (fun K hK => ?_); go_simp; go_at_call 18
        (with_reducible refine (table_any _).mono ?_)
        rintro e w40 ⟨⟨T, a, b, c, d, rfl, ht⟩, hb⟩; replace HD : Sl _ := ⟨HD.out.below hb⟩; have HT : Sl _ := ⟨ht⟩; clear hb ht; refine hK.out _ _ ⟨HD.out.bl, HD.out.at_ 2 rfl⟩ (fun hHeld => ?_); clear hK K
        (try simp only [Act.put, sS0, sS1, sS2])
        refine wpAnyH_one 4 rfl (by kernel_rfl) rfl (fun K hK => ?_); go_simp; go_at_call 17
        (with_reducible refine (shAt A1 A2 A3 A4 P1 P2 P3 T a b c d ga _ (HM.out.below HD.out.bl) HT.out (HD.out.at_ 0 rfl)).mono ?_)
        rintro e w41 ⟨⟨A, n, c, B, m, d', rfl, hr⟩, hb⟩; replace HD : Sl _ := ⟨HD.out.below hb⟩; have HR : Sl _ := ⟨hr⟩; clear hb hr HT; refine hK.out _ _ ⟨HD.out.bl, HD.out.at_ 2 rfl⟩ (fun hHeld => ?_); clear hK K
        (try simp only [Act.put, sS0, sS1, sS2])
        refine wpAnyH_pure 5 (v := .tuple #[.agg #[.slice A n c, .slice B m d'], .int .i64 0]) rfl (by kernel_rfl) (by kernel_rfl) (by kernel_rfl) (fun _ _ _ h => h) rfl (fun _ => rfl) (by assumption) ?_; simp only [Act.put, sS0, sS1, sS2]; refine wpAnyH_pure 6 (v := .agg #[.slice A n c, .slice B m d']) rfl (by kernel_rfl) (by kernel_rfl) (by kernel_rfl) (fun _ _ _ h => h) rfl (fun _ => by go_simp) (by assumption) ?_; simp only [Act.put, sS0, sS1, sS2]; refine wpAnyH_pure 7 (v := .int .i64 0) rfl (by kernel_rfl) (by kernel_rfl) (by kernel_rfl) (fun _ _ _ h => h) rfl (fun _ => by go_simp) (by assumption) ?_; simp only [Act.put, sS0, sS1, sS2]; refine wpAnyH_one 9 rfl (by kernel_rfl) rfl (fun K hK => ?_); refine wp_store_partm 45 (.tmp 2) (.tmp 18) rfl g2 0 #[.slice A n c, .slice B m d'] rfl rfl 45 _ #[.slice A n c, .slice B m d'] (HD.out.at_ 1 rfl) (by simp) (putA_all _ _ rfl) (by kernel_rfl) (by simp [Value.oneCell']) ?_; rintro w42 zm zs zb; replace HR : Sl _ := ⟨HR.out.mvR (HD.out.at_ 1 rfl) zm⟩; replace HD : Sl _ := ⟨HD.out.set 1 rfl zm zb⟩; clear zm zs zb; refine hK.out _ _ ⟨HD.out.bl, HD.out.at_ 2 rfl⟩ (fun hHeld => ?_); clear hK K
        (try simp only [Act.put, sS0, sS1, sS2])
        refine wpAnyH_pure 10 (v := .int .i64 0) rfl (by kernel_rfl) (by kernel_rfl) (by kernel_rfl) (fun _ _ _ h => h) rfl (fun _ => rfl) (by assumption) ?_; simp only [Act.put, sS0, sS1, sS2]; refine wpAnyH_done (by kernel_rfl) ?_ _
        (try go_wp2_with fail)
        go_meet
        exact ⟨g2, A, B, n, c, m, d', rfl, rfl, ⟨HD.out.two 1 2 rfl rfl (by decide), HR.out⟩⟩
  case rest =>
    clear HD; obtain ⟨g2, A, B, n, c, m, d, rfl, rfl, HX⟩ := hcut; have HR : Sl _ := ⟨HX.out.2⟩; have HD : Sl _ := ⟨HX.out.1⟩; clear HX; have hn3 : n = 3 := HR.out.s.1.symm; have hm1 : m = 1 := HR.out.c.1.symm; subst hn3 hm1
    rename World => wx
    go_upto_region 3 with fail
    go_cut [4, 5] from 20 to 28 (fun s4 s5 wy => s4 = .int .i64 2 ∧ s5 = .int .i64 0 ∧ Sl (Below wx.heap.size wx wy))
    case first =>
      have HB : Sl (∀ W, Below wx.heap.size wx W → Blk W g1 33 #[.slice A1 1 1, .slice A2 2 2, .slice A3 3 3, .slice A4 1 1]) := ⟨fun W h => (HD.out.at_ 1 rfl).below h (HD.out.at_ 1 rfl).lt⟩; have HM2 : Sl (∀ W, Below wx.heap.size wx W → SpM W (exO A1 A2 A3 A4 P1 P2 P3)) := ⟨fun W h => HM.out.below (HD.out.bl.trans (h.mono HD.out.bl.size))⟩; have hS0 : Below wx.heap.size wx wx.drew := below_drewN (Below.refl _ _) 1; have HL : Sl (Lg wx wx.drew []) := ⟨(Lg.nil wx).below hS0⟩; clear HD; have HD : Sl _ := ⟨HL.out⟩; clear HL; have hm := hS0; refine wp_region_held_drew (S := fun w' => Below wx.heap.size wx w') (by kernel_rfl) hm (fun hHeld => ?_); clear hm; refine wpAnyH_load 0 33 (.tmp 1) rfl rfl rfl g1 0 rfl #[.slice A1 1 1, .slice A2 2 2, .slice A3 3 3, .slice A4 1 1] _ (fun w' h => by have := World.rangeAt_of_block (HB.out w' h) 0 4; exact this) Tryz.underlying33 rfl (by kernel_rfl) (by kernel_rfl) (by kernel_rfl) (by kernel_rfl) (fun _ _ _ h => h) (by assumption) ?_; simp only [Act.put, sS0, sS1, sS2]; refine wpAnyH_threem 1 2 3 rfl rfl rfl (by kernel_rfl) rfl rfl rfl (fun K hK => ?_) (fun K hK => ?_) (fun K hK => ?_) 
      · skip; go_simp; go_at_call 18
        (with_reducible refine (table_any _).mono ?_)
        rintro e w43 ⟨⟨T, a, b, c', d', rfl, ht⟩, hb⟩; replace HD : Sl _ := ⟨HD.out.below hb⟩; have HT : Sl _ := ⟨ht⟩; clear hb ht; refine hK.out _ _ HD.out.bl (fun hHeld => ?_); clear hK K
        (try simp only [Act.put, sS0, sS1, sS2])
        refine wpAnyH_twom 2 3 rfl rfl (by kernel_rfl) rfl rfl (fun K hK => ?_) (fun K hK => ?_) 
        · skip; refine wp_newblk (fun g => .slice (some ⟨g, 0, none⟩) 1 1) 3 #[.int .i64 0] (fun _ => by kernel_rfl) ?_; rintro w44 ga zg zm zw zb; replace HD : Sl _ := ⟨HD.out.new zg zm zb⟩; replace HT : Sl _ := ⟨HT.out.below zw⟩; clear zg zm zw zb; refine hK.out _ _ HD.out.bl (fun hHeld => ?_); clear hK K
          (try simp only [Act.put, sS0, sS1, sS2])
          refine wpAnyH_one 3 rfl (by kernel_rfl) rfl (fun K hK => ?_); refine wp_newblk (fun g => .slice (some ⟨g, 0, none⟩) 1 1) 3 #[.int .i64 0] (fun _ => by kernel_rfl) ?_; rintro w45 gb zg zm zw zb; replace HD : Sl _ := ⟨HD.out.new zg zm zb⟩; replace HT : Sl _ := ⟨HT.out.below zw⟩; clear zg zm zw zb; refine hK.out _ _ HD.out.bl (fun hHeld => ?_); clear hK K
          (try simp only [Act.put, sS0, sS1, sS2])
          refine wpAnyH_pure 4 (v := .agg #[.slice (some ⟨ga, 0, none⟩) 1 1, .slice (some ⟨gb, 0, none⟩) 1 1]) rfl (by kernel_rfl) (by kernel_rfl) (by kernel_rfl) (fun _ _ _ h => h) rfl (fun _ => by go_simp) (by assumption) ?_; simp only [Act.put, sS0, sS1, sS2]; refine wpAnyH_one 5 rfl (by kernel_rfl) rfl (fun K hK => ?_); go_simp; go_at_call 19
          (with_reducible refine (shNeeded A1 A2 A3 A4 P1 P2 P3 T a b c' d' ga gb _ (HM2.out _ HD.out.bl) HT.out (HD.out.at_ 1 rfl) (HD.out.at_ 0 rfl)).mono ?_)
          rintro e w46 ⟨rfl, hb⟩; replace HD : Sl _ := ⟨HD.out.below hb⟩; clear hb; refine hK.out _ _ HD.out.bl (fun hHeld => ?_); clear hK K
          (try simp only [Act.put, sS0, sS1, sS2])
          clear HT; refine wpAnyH_pure 6 (v := .tuple #[.int .i64 2, .int .i64 0]) rfl (by kernel_rfl) (by kernel_rfl) (by kernel_rfl) (fun _ _ _ h => h) rfl (fun _ => rfl) (by assumption) ?_; simp only [Act.put, sS0, sS1, sS2]; refine wpAnyH_pure 7 (v := .int .i64 2) rfl (by kernel_rfl) (by kernel_rfl) (by kernel_rfl) (fun _ _ _ h => h) rfl (fun _ => by go_simp) (by assumption) ?_; simp only [Act.put, sS0, sS1, sS2]; refine wpAnyH_pure 8 (v := .int .i64 0) rfl (by kernel_rfl) (by kernel_rfl) (by kernel_rfl) (fun _ _ _ h => h) rfl (fun _ => by go_simp) (by assumption) ?_; simp only [Act.put, sS0, sS1, sS2]; refine wpAnyH_pure 9 (v := .int .i64 2) rfl (by kernel_rfl) (by kernel_rfl) (by kernel_rfl) (fun _ _ _ h => h) rfl (fun _ => rfl) (by assumption) ?_; simp only [Act.put, sS0, sS1, sS2]; refine wpAnyH_pure 10 (v := .int .i64 0) rfl (by kernel_rfl) (by kernel_rfl) (by kernel_rfl) (fun _ _ _ h => h) rfl (fun _ => rfl) (by assumption) ?_; simp only [Act.put, sS0, sS1, sS2]; refine wpAnyH_done (by kernel_rfl) ?_ _
          (try go_wp2_with fail)
          go_meet
          exact ⟨rfl, rfl, ⟨HD.out.bl⟩⟩
        · skip; refine wp_newblk (fun g => .slice (some ⟨g, 0, none⟩) 1 1) 3 #[.int .i64 0] (fun _ => by kernel_rfl) ?_; rintro w47 gb zg zm zw zb; replace HD : Sl _ := ⟨HD.out.new zg zm zb⟩; replace HT : Sl _ := ⟨HT.out.below zw⟩; clear zg zm zw zb; refine hK.out _ _ HD.out.bl (fun hHeld => ?_); clear hK K
          (try simp only [Act.put, sS0, sS1, sS2])
          refine wpAnyH_one 2 rfl (by kernel_rfl) rfl (fun K hK => ?_); refine wp_newblk (fun g => .slice (some ⟨g, 0, none⟩) 1 1) 3 #[.int .i64 0] (fun _ => by kernel_rfl) ?_; rintro w48 ga zg zm zw zb; replace HD : Sl _ := ⟨HD.out.new zg zm zb⟩; replace HT : Sl _ := ⟨HT.out.below zw⟩; clear zg zm zw zb; refine hK.out _ _ HD.out.bl (fun hHeld => ?_); clear hK K
          (try simp only [Act.put, sS0, sS1, sS2])
          refine wpAnyH_pure 4 (v := .agg #[.slice (some ⟨ga, 0, none⟩) 1 1, .slice (some ⟨gb, 0, none⟩) 1 1]) rfl (by kernel_rfl) (by kernel_rfl) (by kernel_rfl) (fun _ _ _ h => h) rfl (fun _ => by go_simp) (by assumption) ?_; simp only [Act.put, sS0, sS1, sS2]; refine wpAnyH_one 5 rfl (by kernel_rfl) rfl (fun K hK => ?_); go_simp; go_at_call 19
          (with_reducible refine (shNeeded A1 A2 A3 A4 P1 P2 P3 T a b c' d' ga gb _ (HM2.out _ HD.out.bl) HT.out (HD.out.at_ 0 rfl) (HD.out.at_ 1 rfl)).mono ?_)
          rintro e w49 ⟨rfl, hb⟩; replace HD : Sl _ := ⟨HD.out.below hb⟩; clear hb; refine hK.out _ _ HD.out.bl (fun hHeld => ?_); clear hK K
          (try simp only [Act.put, sS0, sS1, sS2])
          clear HT; refine wpAnyH_pure 6 (v := .tuple #[.int .i64 2, .int .i64 0]) rfl (by kernel_rfl) (by kernel_rfl) (by kernel_rfl) (fun _ _ _ h => h) rfl (fun _ => rfl) (by assumption) ?_; simp only [Act.put, sS0, sS1, sS2]; refine wpAnyH_pure 7 (v := .int .i64 2) rfl (by kernel_rfl) (by kernel_rfl) (by kernel_rfl) (fun _ _ _ h => h) rfl (fun _ => by go_simp) (by assumption) ?_; simp only [Act.put, sS0, sS1, sS2]; refine wpAnyH_pure 8 (v := .int .i64 0) rfl (by kernel_rfl) (by kernel_rfl) (by kernel_rfl) (fun _ _ _ h => h) rfl (fun _ => by go_simp) (by assumption) ?_; simp only [Act.put, sS0, sS1, sS2]; refine wpAnyH_pure 9 (v := .int .i64 2) rfl (by kernel_rfl) (by kernel_rfl) (by kernel_rfl) (fun _ _ _ h => h) rfl (fun _ => rfl) (by assumption) ?_; simp only [Act.put, sS0, sS1, sS2]; refine wpAnyH_pure 10 (v := .int .i64 0) rfl (by kernel_rfl) (by kernel_rfl) (by kernel_rfl) (fun _ _ _ h => h) rfl (fun _ => rfl) (by assumption) ?_; simp only [Act.put, sS0, sS1, sS2]; refine wpAnyH_done (by kernel_rfl) ?_ _
          (try go_wp2_with fail)
          go_meet
          exact ⟨rfl, rfl, ⟨HD.out.bl⟩⟩
      · skip; refine wp_newblk (fun g => .slice (some ⟨g, 0, none⟩) 1 1) 3 #[.int .i64 0] (fun _ => by kernel_rfl) ?_; rintro w50 ga zg zm zw zb; replace HD : Sl _ := ⟨HD.out.new zg zm zb⟩; clear zg zm zw zb; refine hK.out _ _ HD.out.bl (fun hHeld => ?_); clear hK K
        (try simp only [Act.put, sS0, sS1, sS2])
        refine wpAnyH_twom 1 3 rfl rfl (by kernel_rfl) rfl rfl (fun K hK => ?_) (fun K hK => ?_) 
        · skip; go_simp; go_at_call 18
          (with_reducible refine (table_any _).mono ?_)
          rintro e w51 ⟨⟨T, a, b, c', d', rfl, ht⟩, hb⟩; replace HD : Sl _ := ⟨HD.out.below hb⟩; have HT : Sl _ := ⟨ht⟩; clear hb ht; refine hK.out _ _ HD.out.bl (fun hHeld => ?_); clear hK K
          (try simp only [Act.put, sS0, sS1, sS2])
          refine wpAnyH_one 3 rfl (by kernel_rfl) rfl (fun K hK => ?_); refine wp_newblk (fun g => .slice (some ⟨g, 0, none⟩) 1 1) 3 #[.int .i64 0] (fun _ => by kernel_rfl) ?_; rintro w52 gb zg zm zw zb; replace HD : Sl _ := ⟨HD.out.new zg zm zb⟩; replace HT : Sl _ := ⟨HT.out.below zw⟩; clear zg zm zw zb; refine hK.out _ _ HD.out.bl (fun hHeld => ?_); clear hK K
          (try simp only [Act.put, sS0, sS1, sS2])
          refine wpAnyH_pure 4 (v := .agg #[.slice (some ⟨ga, 0, none⟩) 1 1, .slice (some ⟨gb, 0, none⟩) 1 1]) rfl (by kernel_rfl) (by kernel_rfl) (by kernel_rfl) (fun _ _ _ h => h) rfl (fun _ => by go_simp) (by assumption) ?_; simp only [Act.put, sS0, sS1, sS2]; refine wpAnyH_one 5 rfl (by kernel_rfl) rfl (fun K hK => ?_); go_simp; go_at_call 19
          (with_reducible refine (shNeeded A1 A2 A3 A4 P1 P2 P3 T a b c' d' ga gb _ (HM2.out _ HD.out.bl) HT.out (HD.out.at_ 1 rfl) (HD.out.at_ 0 rfl)).mono ?_)
          rintro e w53 ⟨rfl, hb⟩; replace HD : Sl _ := ⟨HD.out.below hb⟩; clear hb; refine hK.out _ _ HD.out.bl (fun hHeld => ?_); clear hK K
          (try simp only [Act.put, sS0, sS1, sS2])
          clear HT; refine wpAnyH_pure 6 (v := .tuple #[.int .i64 2, .int .i64 0]) rfl (by kernel_rfl) (by kernel_rfl) (by kernel_rfl) (fun _ _ _ h => h) rfl (fun _ => rfl) (by assumption) ?_; simp only [Act.put, sS0, sS1, sS2]; refine wpAnyH_pure 7 (v := .int .i64 2) rfl (by kernel_rfl) (by kernel_rfl) (by kernel_rfl) (fun _ _ _ h => h) rfl (fun _ => by go_simp) (by assumption) ?_; simp only [Act.put, sS0, sS1, sS2]; refine wpAnyH_pure 8 (v := .int .i64 0) rfl (by kernel_rfl) (by kernel_rfl) (by kernel_rfl) (fun _ _ _ h => h) rfl (fun _ => by go_simp) (by assumption) ?_; simp only [Act.put, sS0, sS1, sS2]; refine wpAnyH_pure 9 (v := .int .i64 2) rfl (by kernel_rfl) (by kernel_rfl) (by kernel_rfl) (fun _ _ _ h => h) rfl (fun _ => rfl) (by assumption) ?_; simp only [Act.put, sS0, sS1, sS2]; refine wpAnyH_pure 10 (v := .int .i64 0) rfl (by kernel_rfl) (by kernel_rfl) (by kernel_rfl) (fun _ _ _ h => h) rfl (fun _ => rfl) (by assumption) ?_; simp only [Act.put, sS0, sS1, sS2]; refine wpAnyH_done (by kernel_rfl) ?_ _
          (try go_wp2_with fail)
          go_meet
          exact ⟨rfl, rfl, ⟨HD.out.bl⟩⟩
        · skip; refine wp_newblk (fun g => .slice (some ⟨g, 0, none⟩) 1 1) 3 #[.int .i64 0] (fun _ => by kernel_rfl) ?_; rintro w54 gb zg zm zw zb; replace HD : Sl _ := ⟨HD.out.new zg zm zb⟩; clear zg zm zw zb; refine hK.out _ _ HD.out.bl (fun hHeld => ?_); clear hK K
          (try simp only [Act.put, sS0, sS1, sS2])
          refine wpAnyH_pure 4 (v := .agg #[.slice (some ⟨ga, 0, none⟩) 1 1, .slice (some ⟨gb, 0, none⟩) 1 1]) rfl (by kernel_rfl) (by kernel_rfl) (by kernel_rfl) (fun _ _ _ h => h) rfl (fun _ => by go_simp) (by assumption) ?_; simp only [Act.put, sS0, sS1, sS2]; refine wpAnyH_one 1 rfl (by kernel_rfl) rfl (fun K hK => ?_); go_simp; go_at_call 18
          (with_reducible refine (table_any _).mono ?_)
          rintro e w55 ⟨⟨T, a, b, c', d', rfl, ht⟩, hb⟩; replace HD : Sl _ := ⟨HD.out.below hb⟩; have HT : Sl _ := ⟨ht⟩; clear hb ht; refine hK.out _ _ HD.out.bl (fun hHeld => ?_); clear hK K
          (try simp only [Act.put, sS0, sS1, sS2])
          refine wpAnyH_one 5 rfl (by kernel_rfl) rfl (fun K hK => ?_); go_simp; go_at_call 19
          (with_reducible refine (shNeeded A1 A2 A3 A4 P1 P2 P3 T a b c' d' ga gb _ (HM2.out _ HD.out.bl) HT.out (HD.out.at_ 1 rfl) (HD.out.at_ 0 rfl)).mono ?_)
          rintro e w56 ⟨rfl, hb⟩; replace HD : Sl _ := ⟨HD.out.below hb⟩; clear hb; refine hK.out _ _ HD.out.bl (fun hHeld => ?_); clear hK K
          (try simp only [Act.put, sS0, sS1, sS2])
          clear HT; refine wpAnyH_pure 6 (v := .tuple #[.int .i64 2, .int .i64 0]) rfl (by kernel_rfl) (by kernel_rfl) (by kernel_rfl) (fun _ _ _ h => h) rfl (fun _ => rfl) (by assumption) ?_; simp only [Act.put, sS0, sS1, sS2]; refine wpAnyH_pure 7 (v := .int .i64 2) rfl (by kernel_rfl) (by kernel_rfl) (by kernel_rfl) (fun _ _ _ h => h) rfl (fun _ => by go_simp) (by assumption) ?_; simp only [Act.put, sS0, sS1, sS2]; refine wpAnyH_pure 8 (v := .int .i64 0) rfl (by kernel_rfl) (by kernel_rfl) (by kernel_rfl) (fun _ _ _ h => h) rfl (fun _ => by go_simp) (by assumption) ?_; simp only [Act.put, sS0, sS1, sS2]; refine wpAnyH_pure 9 (v := .int .i64 2) rfl (by kernel_rfl) (by kernel_rfl) (by kernel_rfl) (fun _ _ _ h => h) rfl (fun _ => rfl) (by assumption) ?_; simp only [Act.put, sS0, sS1, sS2]; refine wpAnyH_pure 10 (v := .int .i64 0) rfl (by kernel_rfl) (by kernel_rfl) (by kernel_rfl) (fun _ _ _ h => h) rfl (fun _ => rfl) (by assumption) ?_; simp only [Act.put, sS0, sS1, sS2]; refine wpAnyH_done (by kernel_rfl) ?_ _
          (try go_wp2_with fail)
          go_meet
          exact ⟨rfl, rfl, ⟨HD.out.bl⟩⟩
      · skip; refine wp_newblk (fun g => .slice (some ⟨g, 0, none⟩) 1 1) 3 #[.int .i64 0] (fun _ => by kernel_rfl) ?_; rintro w57 gb zg zm zw zb; replace HD : Sl _ := ⟨HD.out.new zg zm zb⟩; clear zg zm zw zb; refine hK.out _ _ HD.out.bl (fun hHeld => ?_); clear hK K
        (try simp only [Act.put, sS0, sS1, sS2])
        refine wpAnyH_twom 1 2 rfl rfl (by kernel_rfl) rfl rfl (fun K hK => ?_) (fun K hK => ?_) 
        · skip; go_simp; go_at_call 18
          (with_reducible refine (table_any _).mono ?_)
          rintro e w58 ⟨⟨T, a, b, c', d', rfl, ht⟩, hb⟩; replace HD : Sl _ := ⟨HD.out.below hb⟩; have HT : Sl _ := ⟨ht⟩; clear hb ht; refine hK.out _ _ HD.out.bl (fun hHeld => ?_); clear hK K
          (try simp only [Act.put, sS0, sS1, sS2])
          refine wpAnyH_one 2 rfl (by kernel_rfl) rfl (fun K hK => ?_); refine wp_newblk (fun g => .slice (some ⟨g, 0, none⟩) 1 1) 3 #[.int .i64 0] (fun _ => by kernel_rfl) ?_; rintro w59 ga zg zm zw zb; replace HD : Sl _ := ⟨HD.out.new zg zm zb⟩; replace HT : Sl _ := ⟨HT.out.below zw⟩; clear zg zm zw zb; refine hK.out _ _ HD.out.bl (fun hHeld => ?_); clear hK K
          (try simp only [Act.put, sS0, sS1, sS2])
          refine wpAnyH_pure 4 (v := .agg #[.slice (some ⟨ga, 0, none⟩) 1 1, .slice (some ⟨gb, 0, none⟩) 1 1]) rfl (by kernel_rfl) (by kernel_rfl) (by kernel_rfl) (fun _ _ _ h => h) rfl (fun _ => by go_simp) (by assumption) ?_; simp only [Act.put, sS0, sS1, sS2]; refine wpAnyH_one 5 rfl (by kernel_rfl) rfl (fun K hK => ?_); go_simp; go_at_call 19
          (with_reducible refine (shNeeded A1 A2 A3 A4 P1 P2 P3 T a b c' d' ga gb _ (HM2.out _ HD.out.bl) HT.out (HD.out.at_ 0 rfl) (HD.out.at_ 1 rfl)).mono ?_)
          rintro e w60 ⟨rfl, hb⟩; replace HD : Sl _ := ⟨HD.out.below hb⟩; clear hb; refine hK.out _ _ HD.out.bl (fun hHeld => ?_); clear hK K
          (try simp only [Act.put, sS0, sS1, sS2])
          clear HT; refine wpAnyH_pure 6 (v := .tuple #[.int .i64 2, .int .i64 0]) rfl (by kernel_rfl) (by kernel_rfl) (by kernel_rfl) (fun _ _ _ h => h) rfl (fun _ => rfl) (by assumption) ?_; simp only [Act.put, sS0, sS1, sS2]; refine wpAnyH_pure 7 (v := .int .i64 2) rfl (by kernel_rfl) (by kernel_rfl) (by kernel_rfl) (fun _ _ _ h => h) rfl (fun _ => by go_simp) (by assumption) ?_; simp only [Act.put, sS0, sS1, sS2]; refine wpAnyH_pure 8 (v := .int .i64 0) rfl (by kernel_rfl) (by kernel_rfl) (by kernel_rfl) (fun _ _ _ h => h) rfl (fun _ => by go_simp) (by assumption) ?_; simp only [Act.put, sS0, sS1, sS2]; refine wpAnyH_pure 9 (v := .int .i64 2) rfl (by kernel_rfl) (by kernel_rfl) (by kernel_rfl) (fun _ _ _ h => h) rfl (fun _ => rfl) (by assumption) ?_; simp only [Act.put, sS0, sS1, sS2]; refine wpAnyH_pure 10 (v := .int .i64 0) rfl (by kernel_rfl) (by kernel_rfl) (by kernel_rfl) (fun _ _ _ h => h) rfl (fun _ => rfl) (by assumption) ?_; simp only [Act.put, sS0, sS1, sS2]; refine wpAnyH_done (by kernel_rfl) ?_ _
          (try go_wp2_with fail)
          go_meet
          exact ⟨rfl, rfl, ⟨HD.out.bl⟩⟩
        · skip; refine wp_newblk (fun g => .slice (some ⟨g, 0, none⟩) 1 1) 3 #[.int .i64 0] (fun _ => by kernel_rfl) ?_; rintro w61 ga zg zm zw zb; replace HD : Sl _ := ⟨HD.out.new zg zm zb⟩; clear zg zm zw zb; refine hK.out _ _ HD.out.bl (fun hHeld => ?_); clear hK K
          (try simp only [Act.put, sS0, sS1, sS2])
          refine wpAnyH_pure 4 (v := .agg #[.slice (some ⟨ga, 0, none⟩) 1 1, .slice (some ⟨gb, 0, none⟩) 1 1]) rfl (by kernel_rfl) (by kernel_rfl) (by kernel_rfl) (fun _ _ _ h => h) rfl (fun _ => by go_simp) (by assumption) ?_; simp only [Act.put, sS0, sS1, sS2]; refine wpAnyH_one 1 rfl (by kernel_rfl) rfl (fun K hK => ?_); go_simp; go_at_call 18
          (with_reducible refine (table_any _).mono ?_)
          rintro e w62 ⟨⟨T, a, b, c', d', rfl, ht⟩, hb⟩; replace HD : Sl _ := ⟨HD.out.below hb⟩; have HT : Sl _ := ⟨ht⟩; clear hb ht; refine hK.out _ _ HD.out.bl (fun hHeld => ?_); clear hK K
          (try simp only [Act.put, sS0, sS1, sS2])
          refine wpAnyH_one 5 rfl (by kernel_rfl) rfl (fun K hK => ?_); go_simp; go_at_call 19
          (with_reducible refine (shNeeded A1 A2 A3 A4 P1 P2 P3 T a b c' d' ga gb _ (HM2.out _ HD.out.bl) HT.out (HD.out.at_ 0 rfl) (HD.out.at_ 1 rfl)).mono ?_)
          rintro e w63 ⟨rfl, hb⟩; replace HD : Sl _ := ⟨HD.out.below hb⟩; clear hb; refine hK.out _ _ HD.out.bl (fun hHeld => ?_); clear hK K
          (try simp only [Act.put, sS0, sS1, sS2])
          clear HT; refine wpAnyH_pure 6 (v := .tuple #[.int .i64 2, .int .i64 0]) rfl (by kernel_rfl) (by kernel_rfl) (by kernel_rfl) (fun _ _ _ h => h) rfl (fun _ => rfl) (by assumption) ?_; simp only [Act.put, sS0, sS1, sS2]; refine wpAnyH_pure 7 (v := .int .i64 2) rfl (by kernel_rfl) (by kernel_rfl) (by kernel_rfl) (fun _ _ _ h => h) rfl (fun _ => by go_simp) (by assumption) ?_; simp only [Act.put, sS0, sS1, sS2]; refine wpAnyH_pure 8 (v := .int .i64 0) rfl (by kernel_rfl) (by kernel_rfl) (by kernel_rfl) (fun _ _ _ h => h) rfl (fun _ => by go_simp) (by assumption) ?_; simp only [Act.put, sS0, sS1, sS2]; refine wpAnyH_pure 9 (v := .int .i64 2) rfl (by kernel_rfl) (by kernel_rfl) (by kernel_rfl) (fun _ _ _ h => h) rfl (fun _ => rfl) (by assumption) ?_; simp only [Act.put, sS0, sS1, sS2]; refine wpAnyH_pure 10 (v := .int .i64 0) rfl (by kernel_rfl) (by kernel_rfl) (by kernel_rfl) (fun _ _ _ h => h) rfl (fun _ => rfl) (by assumption) ?_; simp only [Act.put, sS0, sS1, sS2]; refine wpAnyH_done (by kernel_rfl) ?_ _
          (try go_wp2_with fail)
          go_meet
          exact ⟨rfl, rfl, ⟨HD.out.bl⟩⟩
    case rest =>
      obtain ⟨rfl, rfl, HY⟩ := hcut; replace HD : Sl _ := ⟨HD.out.below HY.out⟩; replace HR : Sl _ := ⟨HR.out.below HY.out⟩; clear HY
      go_wp2_with ((with_reducible show wpList _ _ _ _ _ _); first
        | (refine wpList_made 30 rfl rfl 2 5 #[.int .i64 5, .int .i64 1, .int .i64 3, .int .i64 4, .int .i64 2] (fun _ => by kernel_rfl) ?_; rintro w50 g30 zg zm zs zb; replace HD : Sl _ := ⟨HD.out.new zg zm zb⟩; replace HR : Sl _ := ⟨HR.out.below (below_mv (Below.refl _ _) zm (Nat.le_refl _) (Nat.le_refl _))⟩; clear zg zm zs zb))
      refine (shPlanS g30 _ (HD.out.at_ 0 rfl)).mono ?_; rintro e wp ⟨⟨AP, cP, L, rfl, hg, hl⟩, hb⟩; have HO : Sl _ := ⟨HD.out.below hb⟩; replace HR : Sl _ := ⟨HR.out.below hb⟩; have HG : Sl _ := ⟨hg⟩; have HGL : Sl _ := ⟨hl⟩; clear HD hb hg hl; have HD : Sl (Lg wp wp []) := ⟨Lg.nil wp⟩
      go_wp2_with ((with_reducible show wpList _ _ _ _ _ _); first
        | (refine wpList_load_whole rfl 33 (.tmp 1) rfl g1 rfl 33 _ _ ((HO.out.below HD.out.bl).at_ 2 rfl) Tryz.underlying33 rfl (by kernel_rfl) ?_)
        | (refine wpList_made 37 rfl rfl 3 2 #[.int .i64 0, .int .i64 2] (fun _ => by kernel_rfl) ?_; rintro w51 g37 zg zm zs zb; replace HD : Sl _ := ⟨HD.out.new zg zm zb⟩; clear zg zm zs zb)
        | (refine wpList_made 38 rfl rfl 3 1 #[.int .i64 0] (fun _ => by kernel_rfl) ?_; rintro w52 g38 zg zm zs zb; replace HD : Sl _ := ⟨HD.out.new zg zm zb⟩; clear zg zm zs zb)
        | (refine wpList_made 41 rfl rfl 45 2 #[.slice (some ⟨g37, 0, none⟩) 2 2, .slice (some ⟨g38, 0, none⟩) 1 1, .slice none 0 0, .slice none 0 0] (fun _ => by kernel_rfl) ?_; rintro w53 g41 zg zm zs zb; replace HD : Sl _ := ⟨HD.out.new zg zm zb⟩; clear zg zm zs zb))
      refine (shPrint A1 A2 A3 A4 P1 P2 P3 g41 g37 g38 _ (HM.out.below (HO.out.bl.trans (HD.out.bl.mono HO.out.bl.size))) (HD.out.at_ 2 rfl) (HD.out.at_ 1 rfl) (HD.out.at_ 0 rfl)).mono ?_; rintro e wq ⟨rfl, hb⟩; replace HD : Sl _ := ⟨HD.out.below hb⟩; have HW : Sl (Below wp.heap.size wp wq) := ⟨HD.out.bl⟩; clear HD hb; have r0 := ((HO.out.below HW.out).at_ 1 rfl).cell 0; have r1 := ((HO.out.below HW.out).at_ 1 rfl).cell 1; simp at r0 r1; go_wp2_with fail; have H2 : Sl _ := ⟨two_rows wq 3 3 #[.int .i64 0, .int .i64 1, .int .i64 2] #[.int .i64 0]⟩; refine (sameR_any ⟨A, 3, c, [0, 1, 2], B, 1, d, [0]⟩ ⟨some ⟨wq.heap.size, 0, none⟩, 3, 3, [0, 1, 2], some ⟨wq.heap.size + 1, 0, none⟩, 1, 1, [0]⟩ _ (HR.out.below (HW.out.trans (H2.out.2.2.mono HW.out.size))) ⟨.of_blk H2.out.1 rfl rfl, .of_blk H2.out.2.1 rfl rfl, ⟨Nat.le_refl _, by show 3 ≤ maxLen; decide⟩, ⟨Nat.le_refl _, by show 1 ≤ maxLen; decide⟩⟩ rfl rfl (by show 3 ≤ 1000000; decide) (by show 1 ≤ 1000000; decide)).mono ?_; rintro e wr ⟨rfl, hb⟩; have HV : Sl (Below wp.heap.size wp wr) := ⟨(HW.out.trans (H2.out.2.2.mono HW.out.size)).trans (hb.mono (Nat.le_trans HW.out.size H2.out.2.2.size))⟩; clear HW H2 hb r0 r1; go_wp2_with fail; have H3 : Sl _ := ⟨three_rows wr 3 3 43 #[.int .i64 1, .int .i64 4, .int .i64 2] #[.int .i64 3, .int .i64 0] #[.slice (some ⟨wr.heap.size, 0, none⟩) 3 3, .slice (some ⟨wr.heap.size + 1, 0, none⟩) 2 2]⟩
      have HLE : Sl (∀ s ∈ L, s.n ≤ 1000000) := ⟨fun s hs => by
        have h1 := (HG.out.all s hs).1; have h2 : s.l ∈ L.map SlV.l := List.mem_map.2 ⟨s, hs, rfl⟩; rw [HGL.out] at h2; simp only [List.mem_cons, List.not_mem_nil, or_false] at h2; rcases h2 with h2 | h2
        · rw [h2] at h1; simp at h1; omega
        · rw [h2] at h1; simp at h1; omega⟩
      refine (groups_any AP (some ⟨wr.heap.size + 2, 0, none⟩) 2 cP 2 L [⟨some ⟨wr.heap.size, 0, none⟩, 3, 3, [1, 4, 2]⟩, ⟨some ⟨wr.heap.size + 1, 0, none⟩, 2, 2, [3, 0]⟩] _ (HG.out.below (HV.out.trans (H3.out.2.2.2.mono HV.out.size))) (.of_blk H3.out.2.2.1 rfl rfl (fun s hs => ?_)) (by decide) HGL.out HLE.out).mono ?_
      · simp only [List.mem_cons, List.not_mem_nil, or_false] at hs; rcases hs with rfl | rfl
        · exact .of_blk H3.out.1 rfl rfl
        · exact .of_blk H3.out.2.1 rfl rfl
      rintro e wt ⟨rfl, hb⟩; have HU : Sl (Below w.heap.size w wt) := ⟨HBE.out.trans ((HO.out.bl.trans (((HV.out.trans (H3.out.2.2.2.mono HV.out.size)).trans (hb.mono (Nat.le_trans HV.out.size H3.out.2.2.2.size))).mono HO.out.bl.size)).mono HBE.out.size)⟩; clear HV H3 hb HLE; go_wp2_with fail; go_ret; exact ⟨rfl, HU.out⟩
end Go.Proofs.YtabkpbbjodfolaaGreatDoor
