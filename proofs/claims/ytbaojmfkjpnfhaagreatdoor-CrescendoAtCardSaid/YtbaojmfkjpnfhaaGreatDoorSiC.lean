/- slices.symMergeCmpFunc of indices where one part is a single one. (Printed by gensi.py.) -/
import Derived.Test.YtbaojmfkjpnfhaaGreatDoorSiB
namespace Go.Proofs.YtbaojmfkjpnfhaaGreatDoor
set_option linter.unusedSimpArgs false
open Go.RowKit
set_option linter.unusedVariables false

set_option maxHeartbeats 12800000 in
set_option maxRecDepth 100000 in
theorem smLeftI_any (ws : List Int) (g gf N cap a m b : Nat) (d : Nat → Int) (w : World) (h : PBI ws w g N d) (hf : KeyI ws w gf g) (ham : a < m) (hmb : m < b) (hb : b ≤ N) (hN : N ≤ 1000000) (hs1 : Srt (dueI ws) d a m) (hs2 : Srt (dueI ws) d m b) (hcr : Crs d a m b) (h1 : m = a + 1) :
    Calls Tryz.prog 166 #[.slice (some ⟨g, 0, none⟩) N cap, .int .i64 a, .int .i64 m, .int .i64 b, .func (.func 72) #[] #[.pointer (some ⟨gf, 0, none⟩)]] w fun e w' => e = .returned (.tuple #[]) ∧ Mv g w w' ∧ ∃ d', PBI ws w' g N d' ∧ Pm a b d d' ∧ Srt (dueI ws) d' a b := by
  have hrun : ∀ (args : Array Value) (w : World), (callFunc 72 args).run Tryz.prog w = .ok (.enter 72 args) w := fun a w => by go_simp
  have HP : Sl _ := ⟨h⟩
  have HF : Sl _ := ⟨hf⟩
  have HAB : Sl (a < m ∧ m < b ∧ b ≤ N ∧ N ≤ 1000000) := ⟨ham, hmb, hb, hN⟩
  have HCR : Sl _ := ⟨hcr⟩
  have HS : Sl _ := ⟨And.intro hs1 hs2⟩
  have hb6 : (b : Int) ≤ 1000000 := by omega
  have hbN : (b : Int) ≤ (N : Int) := by omega
  have hab0 : (a : Int) < (m : Int) := by omega
  have hmb0 : (m : Int) < (b : Int) := by omega
  have hma : (m : Int) - (a : Int) = 1 := by omega
  have H1 : Sl (m = a + 1) := ⟨h1⟩
  clear h1
  clear h hf hcr ham hmb hb hN hs1 hs2
  go_enter Tryz.func166, Tryz.ntmps166
  go_wp2_with fail
  clear hma
  go_loopw [10, 11, 12] (fun s10 s11 s12 wr => ∃ (i j : Nat) (v12 : Value), s10 = .int .i64 i ∧ s11 = .int .i64 j ∧ s12 = v12 ∧ m ≤ i ∧ i ≤ j ∧ j ≤ b ∧ Sl (Mv g w wr ∧ PBI ws wr g N d) ∧ Sl ((∀ c, m ≤ c → c < i → (dueI ws) (d c) < (dueI ws) (d a)) ∧ (∀ c, j ≤ c → c < b → (dueI ws) (d a) ≤ (dueI ws) (d c)))) (fun s10 s11 _ _ => (RowKit.intOf s11 - RowKit.intOf s10).toNat)
  case atStart => exact ⟨m, b, _, rfl, rfl, rfl, Nat.le_refl _, Nat.le_of_lt HAB.out.2.1, Nat.le_refl _, ⟨Mv.refl _ _, HP.out⟩, ⟨fun c h1 h2 => by omega, fun c h1 h2 => by omega⟩⟩
  case round =>
    clear HP
    obtain ⟨i, j, v12, rfl, rfl, rfl, hmi, hij, hjb, HW, HC⟩ := hrel
    obtain ⟨ham, hmb, hbN', hN⟩ := HAB.out
    by_cases hlt : i < j
    · obtain ⟨h, hh⟩ : ∃ h, (i + j) / 2 = h := ⟨_, rfl⟩
      have hhi : i ≤ h ∧ h < j := by omega
      have hhI : ((i : Int) + (j : Int)) / 2 = (h : Int) := by omega
      have hltI : (i : Int) < (j : Int) := by omega
      have hj6 : (j : Int) ≤ 1000000 := by omega
      have hhN : (h : Int) < (N : Int) := by omega
      have haN : (a : Int) < (N : Int) := by omega
      have hhN' : h < N := by omega
      have haN' : a < N := by omega
      have hh6 : (h : Int) ≤ 1000000 := by omega
      obtain ⟨x, hp⟩ : ∃ p, d h = p := ⟨_, rfl⟩
      obtain ⟨u, hq⟩ : ∃ q, d a = q := ⟨_, rfl⟩
      have HPQ : Sl (d h = x ∧ d a = u) := ⟨hp, hq⟩
      have HRA : Sl ((∀ w' : World, Mv wr.heap.size wr w' → w'.cell? ⟨g, h, none⟩ = some (.int .i64 x)) ∧ (∀ w' : World, Mv wr.heap.size wr w' → w'.cell? ⟨g, a, none⟩ = some (.int .i64 u))) := ⟨by
        refine ⟨fun w' hm' => ?_, fun w' hm' => ?_⟩
        · have := (HW.out.2.mv hm' (by have := HW.out.2.lt; omega)).cell (j := h) (by omega)
          rw [hp] at this; exact this
        · have := (HW.out.2.mv hm' (by have := HW.out.2.lt; omega)).cell (j := a) (by omega)
          rw [hq] at this; exact this⟩
      obtain ⟨c, hc⟩ : ∃ c, cmpD (gt ws x.toNat) (gt ws u.toNat) = c := ⟨_, rfl⟩
      have hux : u < x := by
        have := HCR.out a h (by omega) (by omega) (by omega) (by omega)
        rw [hp, hq] at this; exact this
      have hxb := HW.out.2.2 h (by omega)
      have hub := HW.out.2.2 a (by omega)
      rw [hp] at hxb
      rw [hq] at hub
      have HCC : Sl (c < 0 ↔ (dueI ws) (d h) < (dueI ws) (d a)) := ⟨by rw [← hc, hp, hq]; exact cmpD_due HF.out.2.2 hub.1 hxb.2 hux⟩
      have HCM : Sl (∀ (W : World), RowKit.Below wr.heap.size wr W → Calls Tryz.prog 72 #[.int .i64 x, .int .i64 u, .pointer (some ⟨gf, 0, none⟩)] W fun e w' => e = .returned (.int .i64 c) ∧ RowKit.Below wr.heap.size wr w') := ⟨fun W hW => by
        have := plan1I_any x u W ((KeyI.mv HF.out HW.out.1).below hW) hxb hub
        rw [hc] at this
        exact this.mono fun e w' g => ⟨g.1, hW.trans (g.2.mono hW.size)⟩⟩
      clear hc hp hq hux hxb hub
      clear hh ham hmb hbN' hN
      by_cases hyv : (dueI ws) (d h) < (dueI ws) (d a)
      · have hcd : decide (c < 0) = true := decide_eq_true (HCC.out.2 hyv)
        have HLT : Sl _ := ⟨hyv⟩
        clear hyv
        go_wp2_with fail
        have hm : Mv wr.heap.size wr wr.drew := Mv.drew _ _
        have HSW : Sl (RowKit.Below wr.heap.size wr wr.drew) := ⟨below_drewN (Below.refl _ _) 1⟩
        refine wp_region_held_drew (S := fun w' => Mv wr.heap.size wr w') (by kernel_rfl) hm (fun hHeld => ?_)
        clear hm
        refine wpAnyH_pure 0 (v := .func (.func 72) #[] #[.pointer (some ⟨gf, 0, none⟩)]) rfl (by kernel_rfl) (by kernel_rfl) (by kernel_rfl) (fun _ _ _ h => h) rfl (fun _ => rfl) (by assumption) ?_
        simp only [Act.put, sS0, sS1, sS2]
        refine wpAnyH_pure 1 (v := .slice (some ⟨g, 0, none⟩) N cap) rfl (by kernel_rfl) (by kernel_rfl) (by kernel_rfl) (fun _ _ _ h => h) rfl (fun _ => rfl) (by assumption) ?_
        simp only [Act.put, sS0, sS1, sS2]
        refine wpAnyH_pure 2 (v := .int .i64 (h : Int)) rfl (by kernel_rfl) (by kernel_rfl) (by kernel_rfl) (fun _ _ _ h => h) rfl (fun _ => rfl) (by assumption) ?_
        simp only [Act.put, sS0, sS1, sS2]
        refine wpAnyH_pure 3 (v := .pointer (some ⟨g, h, none⟩)) rfl (by kernel_rfl) (by kernel_rfl) (by kernel_rfl) (fun _ _ _ h => h) rfl (fun _ => by go_simp) (by assumption) ?_
        simp only [Act.put, sS0, sS1, sS2]
        refine wpAnyH_cell 4 (v := .int .i64 x) rfl rfl (fun w' h => by have hc := HRA.out.1 w' h; go_simp) (by kernel_rfl) (by kernel_rfl) (by kernel_rfl) (fun _ _ _ h => h) (by assumption) ?_
        simp only [Act.put, sS0, sS1, sS2]
        refine wpAnyH_pure 5 (v := .slice (some ⟨g, 0, none⟩) N cap) rfl (by kernel_rfl) (by kernel_rfl) (by kernel_rfl) (fun _ _ _ h => h) rfl (fun _ => rfl) (by assumption) ?_
        simp only [Act.put, sS0, sS1, sS2]
        refine wpAnyH_pure 6 (v := .int .i64 (a : Int)) rfl (by kernel_rfl) (by kernel_rfl) (by kernel_rfl) (fun _ _ _ h => h) rfl (fun _ => rfl) (by assumption) ?_
        simp only [Act.put, sS0, sS1, sS2]
        refine wpAnyH_pure 7 (v := .pointer (some ⟨g, a, none⟩)) rfl (by kernel_rfl) (by kernel_rfl) (by kernel_rfl) (fun _ _ _ h => h) rfl (fun _ => by go_simp) (by assumption) ?_
        simp only [Act.put, sS0, sS1, sS2]
        refine wpAnyH_cell 8 (v := .int .i64 u) rfl rfl (fun w' h => by have hc := HRA.out.2 w' h; go_simp) (by kernel_rfl) (by kernel_rfl) (by kernel_rfl) (fun _ _ _ h => h) (by assumption) ?_
        simp only [Act.put, sS0, sS1, sS2]
        refine wpAnyH_one 9 rfl (by kernel_rfl) rfl (fun K hK => ?_)
        go_simp
        go_at_call 72
        (with_reducible refine (HCM.out _ HSW.out).mono ?_)
        rintro ee w2 ⟨rfl, hb⟩
        replace HSW : Sl (RowKit.Below wr.heap.size wr w2) := ⟨hb⟩
        refine hK.out _ _ (Mv.below HSW.out) (fun hHeld => ?_)
        clear hK K hb
        (try simp only [Act.put, sS0, sS1, sS2])
        refine wpAnyH_pure 10 (v := .bool true) rfl (by kernel_rfl) (by kernel_rfl) (by kernel_rfl) (fun _ _ _ h => h) rfl (fun _ => by go_simp) (by assumption) ?_
        simp only [Act.put, sS0, sS1, sS2]
        refine wpAnyH_done (by kernel_rfl) ?_ _
        clear hHeld
        have HW2 : Sl (Mv g w w2 ∧ PBI ws w2 g N d) := ⟨Mv.trans HW.out.1 (Mv.below HSW.out), HW.out.2.below HSW.out HW.out.2.lt⟩
        clear HRA HCM HSW HW
        go_wp2_with fail
        refine ⟨⟨h + 1, j, _, by go_num, rfl, rfl, by omega, by omega, hjb, HW2, ⟨fun c' h1 h2 => ?_, HC.out.2⟩⟩, by simp [RowKit.intOf]; omega⟩
        exact Int.lt_of_le_of_lt (HS.out.2 c' h h1 (by omega) (by omega)) HLT.out
      · have hcd : decide (c < 0) = false := decide_eq_false (fun h => hyv (HCC.out.1 h))
        have HLT : Sl ((dueI ws) (d a) ≤ (dueI ws) (d h)) := ⟨by omega⟩
        clear hyv
        go_wp2_with fail
        have hm : Mv wr.heap.size wr wr.drew := Mv.drew _ _
        have HSW : Sl (RowKit.Below wr.heap.size wr wr.drew) := ⟨below_drewN (Below.refl _ _) 1⟩
        refine wp_region_held_drew (S := fun w' => Mv wr.heap.size wr w') (by kernel_rfl) hm (fun hHeld => ?_)
        clear hm
        refine wpAnyH_pure 0 (v := .func (.func 72) #[] #[.pointer (some ⟨gf, 0, none⟩)]) rfl (by kernel_rfl) (by kernel_rfl) (by kernel_rfl) (fun _ _ _ h => h) rfl (fun _ => rfl) (by assumption) ?_
        simp only [Act.put, sS0, sS1, sS2]
        refine wpAnyH_pure 1 (v := .slice (some ⟨g, 0, none⟩) N cap) rfl (by kernel_rfl) (by kernel_rfl) (by kernel_rfl) (fun _ _ _ h => h) rfl (fun _ => rfl) (by assumption) ?_
        simp only [Act.put, sS0, sS1, sS2]
        refine wpAnyH_pure 2 (v := .int .i64 (h : Int)) rfl (by kernel_rfl) (by kernel_rfl) (by kernel_rfl) (fun _ _ _ h => h) rfl (fun _ => rfl) (by assumption) ?_
        simp only [Act.put, sS0, sS1, sS2]
        refine wpAnyH_pure 3 (v := .pointer (some ⟨g, h, none⟩)) rfl (by kernel_rfl) (by kernel_rfl) (by kernel_rfl) (fun _ _ _ h => h) rfl (fun _ => by go_simp) (by assumption) ?_
        simp only [Act.put, sS0, sS1, sS2]
        refine wpAnyH_cell 4 (v := .int .i64 x) rfl rfl (fun w' h => by have hc := HRA.out.1 w' h; go_simp) (by kernel_rfl) (by kernel_rfl) (by kernel_rfl) (fun _ _ _ h => h) (by assumption) ?_
        simp only [Act.put, sS0, sS1, sS2]
        refine wpAnyH_pure 5 (v := .slice (some ⟨g, 0, none⟩) N cap) rfl (by kernel_rfl) (by kernel_rfl) (by kernel_rfl) (fun _ _ _ h => h) rfl (fun _ => rfl) (by assumption) ?_
        simp only [Act.put, sS0, sS1, sS2]
        refine wpAnyH_pure 6 (v := .int .i64 (a : Int)) rfl (by kernel_rfl) (by kernel_rfl) (by kernel_rfl) (fun _ _ _ h => h) rfl (fun _ => rfl) (by assumption) ?_
        simp only [Act.put, sS0, sS1, sS2]
        refine wpAnyH_pure 7 (v := .pointer (some ⟨g, a, none⟩)) rfl (by kernel_rfl) (by kernel_rfl) (by kernel_rfl) (fun _ _ _ h => h) rfl (fun _ => by go_simp) (by assumption) ?_
        simp only [Act.put, sS0, sS1, sS2]
        refine wpAnyH_cell 8 (v := .int .i64 u) rfl rfl (fun w' h => by have hc := HRA.out.2 w' h; go_simp) (by kernel_rfl) (by kernel_rfl) (by kernel_rfl) (fun _ _ _ h => h) (by assumption) ?_
        simp only [Act.put, sS0, sS1, sS2]
        refine wpAnyH_one 9 rfl (by kernel_rfl) rfl (fun K hK => ?_)
        go_simp
        go_at_call 72
        (with_reducible refine (HCM.out _ HSW.out).mono ?_)
        rintro ee w2 ⟨rfl, hb⟩
        replace HSW : Sl (RowKit.Below wr.heap.size wr w2) := ⟨hb⟩
        refine hK.out _ _ (Mv.below HSW.out) (fun hHeld => ?_)
        clear hK K hb
        (try simp only [Act.put, sS0, sS1, sS2])
        refine wpAnyH_pure 10 (v := .bool false) rfl (by kernel_rfl) (by kernel_rfl) (by kernel_rfl) (fun _ _ _ h => h) rfl (fun _ => by go_simp) (by assumption) ?_
        simp only [Act.put, sS0, sS1, sS2]
        refine wpAnyH_done (by kernel_rfl) ?_ _
        clear hHeld
        have HW2 : Sl (Mv g w w2 ∧ PBI ws w2 g N d) := ⟨Mv.trans HW.out.1 (Mv.below HSW.out), HW.out.2.below HSW.out HW.out.2.lt⟩
        clear HRA HCM HSW HW
        go_wp2_with fail
        refine ⟨⟨i, h, _, rfl, rfl, rfl, hmi, hhi.1, by omega, HW2, ⟨HC.out.1, fun c' h1 h2 => ?_⟩⟩, by simp [RowKit.intOf]; omega⟩
        exact Int.le_trans HLT.out (HS.out.2 h c' (by omega) h1 h2)
    · obtain rfl : i = j := by omega
      obtain ⟨z, hz⟩ : ∃ z, i = z + 1 := ⟨i - 1, by omega⟩
      have hzI : (i : Int) - 1 = (z : Int) := by omega
      have hzw : IntKind.i64.wrap (z : Int) = (z : Int) := by rw [IntKind.wrap_i64]; omega
      have HZ : Sl (i = z + 1 ∧ a ≤ z) := ⟨hz, by omega⟩
      have hi6 : (i : Int) ≤ 1000000 := by omega
      clear hz hij hlt
      go_wp2_with fail
      go_loopw [13] (fun s13 wr => ∃ (t : Nat), a + t ≤ z ∧ s13 = .int .i64 ((a : Int) + (t : Int)) ∧ Sl (Mv g w wr ∧ PBI ws wr g N (upTo d a t))) (fun s13 _ => ((z : Int) - RowKit.intOf s13).toNat)
      case atStart => exact ⟨0, HZ.out.2, by go_num, HW⟩
      case round =>
        clear HW
        obtain ⟨t, htz, rfl, HK⟩ := hrel
        obtain ⟨p, hp⟩ : ∃ p, a + t = p := ⟨_, rfl⟩
        have hpI : (a : Int) + (t : Int) = (p : Int) := by omega
        have HPP : Sl _ := ⟨hp⟩
        rw [hpI]
        by_cases htz2 : p < z
        · obtain ⟨q, hq⟩ : ∃ q, p + 1 = q := ⟨_, rfl⟩
          have hqI : (p : Int) + 1 = (q : Int) := by omega
          have HQQ : Sl _ := ⟨hq⟩
          have hzi := HZ.out
          have hpN : p < N := by omega
          have hqN : q < N := by omega
          have hpN2 : (p : Int) < (N : Int) := by omega
          have hqN2 : (q : Int) < (N : Int) := by omega
          have hqw : IntKind.i64.wrap (q : Int) = (q : Int) := by rw [IntKind.wrap_i64]; omega
          have hpz : (p : Int) < (z : Int) := by omega
          clear hzi ham hmb hbN' hN
          have fp1 := HK.out.2.frozen p
          have fq1 := HK.out.2.frozen q
          have cp1 := HK.out.2.cell hpN
          have cq1 := HK.out.2.cell hqN
          obtain ⟨x, hP⟩ : ∃ P, upTo d a t p = P := ⟨_, rfl⟩
          obtain ⟨u, hR⟩ : ∃ R, upTo d a t q = R := ⟨_, rfl⟩
          rw [hP] at cp1
          rw [hR] at cq1
          have HPR : Sl _ := ⟨And.intro hP hR⟩
          have HNN : Sl (p < N ∧ q < N) := ⟨hpN, hqN⟩
          have hne : p ≠ q := by omega
          clear hp hq hP hR hpI
          go_wp2_with fail
          go_region
          go_wp2_with fail
          have hpb := HK.out.2.swap HNN.out.1 HNN.out.2 HPR.out.1 HPR.out.2
          exact ⟨⟨t + 1, by have := HPP.out; omega, by have := HPP.out; have := HQQ.out; congr 1; omega, ⟨Mv.trans HK.out.1 (Mv.trans (Mv.set2 _ _ _ _ _ _) (Mv.drew _ _)), by rw [upTo, HPP.out, HQQ.out]; exact hpb⟩⟩, by have := HQQ.out; simp [RowKit.intOf]; omega⟩
        · have hpz : ¬ (p : Int) < (z : Int) := by omega
          have hpd : decide ((p : Int) < (z : Int)) = false := decide_eq_false hpz
          have HFIN : Sl (Pm a b d (upTo d a t) ∧ Srt (dueI ws) (upTo d a t) a b) := ⟨by
            have hzi := HZ.out
            have h1 := H1.out
            refine ⟨upTo_pm d a t (Nat.le_refl _) (by omega), upTo_srt (by rw [← h1]; exact HS.out.2) (by omega) (fun c h2 h3 => HC.out.1 c (by omega) (by omega)) (fun c h2 h3 => HC.out.2 c (by omega) h3)⟩⟩
          have hp6 : (p : Int) ≤ 1000000 := by omega
          clear hp hpI
          go_wp2_with fail
          ((try simp only [Exit.inBlock, Exit.then]); refine bodyPost_ret (results_none rfl _ _ _) rfl ?_)
          exact ⟨rfl, HK.out.1, _, HK.out.2, HFIN.out⟩
set_option maxHeartbeats 12800000 in
set_option maxRecDepth 100000 in
theorem smRightI_any (ws : List Int) (g gf N cap a m b : Nat) (d : Nat → Int) (w : World) (h : PBI ws w g N d) (hf : KeyI ws w gf g) (ham : a < m) (hmb : m < b) (hb : b ≤ N) (hN : N ≤ 1000000) (hs1 : Srt (dueI ws) d a m) (hs2 : Srt (dueI ws) d m b) (hcr : Crs d a m b) (h0 : m ≠ a + 1) (h1 : b = m + 1) :
    Calls Tryz.prog 166 #[.slice (some ⟨g, 0, none⟩) N cap, .int .i64 a, .int .i64 m, .int .i64 b, .func (.func 72) #[] #[.pointer (some ⟨gf, 0, none⟩)]] w fun e w' => e = .returned (.tuple #[]) ∧ Mv g w w' ∧ ∃ d', PBI ws w' g N d' ∧ Pm a b d d' ∧ Srt (dueI ws) d' a b := by
  have hrun : ∀ (args : Array Value) (w : World), (callFunc 72 args).run Tryz.prog w = .ok (.enter 72 args) w := fun a w => by go_simp
  have HP : Sl _ := ⟨h⟩
  have HF : Sl _ := ⟨hf⟩
  have HAB : Sl (a < m ∧ m < b ∧ b ≤ N ∧ N ≤ 1000000) := ⟨ham, hmb, hb, hN⟩
  have HCR : Sl _ := ⟨hcr⟩
  have HS : Sl _ := ⟨And.intro hs1 hs2⟩
  have hb6 : (b : Int) ≤ 1000000 := by omega
  have hbN : (b : Int) ≤ (N : Int) := by omega
  have hab0 : (a : Int) < (m : Int) := by omega
  have hmb0 : (m : Int) < (b : Int) := by omega
  have hma : ((m : Int) - (a : Int) == 1) = false := by simp; omega
  have hbm : (b : Int) - (m : Int) = 1 := by omega
  have H1 : Sl (b = m + 1) := ⟨h1⟩
  clear h1 h0
  clear h hf hcr ham hmb hb hN hs1 hs2
  go_enter Tryz.func166, Tryz.ntmps166
  go_wp2_with fail
  clear hma hbm
  go_loopw [14, 15, 16] (fun s14 s15 s16 wr => ∃ (i j : Nat) (v16 : Value), s14 = .int .i64 i ∧ s15 = .int .i64 j ∧ s16 = v16 ∧ a ≤ i ∧ i ≤ j ∧ j ≤ m ∧ Sl (Mv g w wr ∧ PBI ws wr g N d) ∧ Sl ((∀ c, a ≤ c → c < i → (dueI ws) (d c) ≤ (dueI ws) (d m)) ∧ (∀ c, j ≤ c → c < m → (dueI ws) (d m) < (dueI ws) (d c)))) (fun s14 s15 _ _ => (RowKit.intOf s15 - RowKit.intOf s14).toNat)
  case atStart => exact ⟨a, m, _, rfl, rfl, rfl, Nat.le_refl _, Nat.le_of_lt HAB.out.1, Nat.le_refl _, ⟨Mv.refl _ _, HP.out⟩, ⟨fun c h1 h2 => by omega, fun c h1 h2 => by omega⟩⟩
  case round =>
    clear HP
    obtain ⟨i, j, v16, rfl, rfl, rfl, hmi, hij, hjb, HW, HC⟩ := hrel
    obtain ⟨ham, hmb, hbN', hN⟩ := HAB.out
    by_cases hlt : i < j
    · obtain ⟨h, hh⟩ : ∃ h, (i + j) / 2 = h := ⟨_, rfl⟩
      have hhi : i ≤ h ∧ h < j := by omega
      have hhI : ((i : Int) + (j : Int)) / 2 = (h : Int) := by omega
      have hltI : (i : Int) < (j : Int) := by omega
      have hj6 : (j : Int) ≤ 1000000 := by omega
      have hhN : (h : Int) < (N : Int) := by omega
      have hmN : (m : Int) < (N : Int) := by omega
      have hhN' : h < N := by omega
      have hmN' : m < N := by omega
      have hh6 : (h : Int) ≤ 1000000 := by omega
      obtain ⟨x, hp⟩ : ∃ p, d m = p := ⟨_, rfl⟩
      obtain ⟨u, hq⟩ : ∃ q, d h = q := ⟨_, rfl⟩
      have HPQ : Sl (d m = x ∧ d h = u) := ⟨hp, hq⟩
      have HRA : Sl ((∀ w' : World, Mv wr.heap.size wr w' → w'.cell? ⟨g, m, none⟩ = some (.int .i64 x)) ∧ (∀ w' : World, Mv wr.heap.size wr w' → w'.cell? ⟨g, h, none⟩ = some (.int .i64 u))) := ⟨by
        refine ⟨fun w' hm' => ?_, fun w' hm' => ?_⟩
        · have := (HW.out.2.mv hm' (by have := HW.out.2.lt; omega)).cell (j := m) (by omega)
          rw [hp] at this; exact this
        · have := (HW.out.2.mv hm' (by have := HW.out.2.lt; omega)).cell (j := h) (by omega)
          rw [hq] at this; exact this⟩
      obtain ⟨c, hc⟩ : ∃ c, cmpD (gt ws x.toNat) (gt ws u.toNat) = c := ⟨_, rfl⟩
      have hux : u < x := by
        have := HCR.out h m (by omega) (by omega) (by omega) (by omega)
        rw [hp, hq] at this; exact this
      have hxb := HW.out.2.2 m (by omega)
      have hub := HW.out.2.2 h (by omega)
      rw [hp] at hxb
      rw [hq] at hub
      have HCC : Sl (c < 0 ↔ (dueI ws) (d m) < (dueI ws) (d h)) := ⟨by rw [← hc, hp, hq]; exact cmpD_due HF.out.2.2 hub.1 hxb.2 hux⟩
      have HCM : Sl (∀ (W : World), RowKit.Below wr.heap.size wr W → Calls Tryz.prog 72 #[.int .i64 x, .int .i64 u, .pointer (some ⟨gf, 0, none⟩)] W fun e w' => e = .returned (.int .i64 c) ∧ RowKit.Below wr.heap.size wr w') := ⟨fun W hW => by
        have := plan1I_any x u W ((KeyI.mv HF.out HW.out.1).below hW) hxb hub
        rw [hc] at this
        exact this.mono fun e w' g => ⟨g.1, hW.trans (g.2.mono hW.size)⟩⟩
      clear hc hp hq hux hxb hub
      clear hh ham hmb hbN' hN
      by_cases hyv : (dueI ws) (d m) < (dueI ws) (d h)
      · have hcd : decide (c < 0) = true := decide_eq_true (HCC.out.2 hyv)
        have HLT : Sl _ := ⟨hyv⟩
        clear hyv
        go_wp2_with fail
        have hm : Mv wr.heap.size wr wr.drew := Mv.drew _ _
        have HSW : Sl (RowKit.Below wr.heap.size wr wr.drew) := ⟨below_drewN (Below.refl _ _) 1⟩
        refine wp_region_held_drew (S := fun w' => Mv wr.heap.size wr w') (by kernel_rfl) hm (fun hHeld => ?_)
        clear hm
        refine wpAnyH_pure 0 (v := .func (.func 72) #[] #[.pointer (some ⟨gf, 0, none⟩)]) rfl (by kernel_rfl) (by kernel_rfl) (by kernel_rfl) (fun _ _ _ h => h) rfl (fun _ => rfl) (by assumption) ?_
        simp only [Act.put, sS0, sS1, sS2]
        refine wpAnyH_pure 1 (v := .slice (some ⟨g, 0, none⟩) N cap) rfl (by kernel_rfl) (by kernel_rfl) (by kernel_rfl) (fun _ _ _ h => h) rfl (fun _ => rfl) (by assumption) ?_
        simp only [Act.put, sS0, sS1, sS2]
        refine wpAnyH_pure 2 (v := .int .i64 (m : Int)) rfl (by kernel_rfl) (by kernel_rfl) (by kernel_rfl) (fun _ _ _ h => h) rfl (fun _ => rfl) (by assumption) ?_
        simp only [Act.put, sS0, sS1, sS2]
        refine wpAnyH_pure 3 (v := .pointer (some ⟨g, m, none⟩)) rfl (by kernel_rfl) (by kernel_rfl) (by kernel_rfl) (fun _ _ _ h => h) rfl (fun _ => by go_simp) (by assumption) ?_
        simp only [Act.put, sS0, sS1, sS2]
        refine wpAnyH_cell 4 (v := .int .i64 x) rfl rfl (fun w' h => by have hc := HRA.out.1 w' h; go_simp) (by kernel_rfl) (by kernel_rfl) (by kernel_rfl) (fun _ _ _ h => h) (by assumption) ?_
        simp only [Act.put, sS0, sS1, sS2]
        refine wpAnyH_pure 5 (v := .slice (some ⟨g, 0, none⟩) N cap) rfl (by kernel_rfl) (by kernel_rfl) (by kernel_rfl) (fun _ _ _ h => h) rfl (fun _ => rfl) (by assumption) ?_
        simp only [Act.put, sS0, sS1, sS2]
        refine wpAnyH_pure 6 (v := .int .i64 (h : Int)) rfl (by kernel_rfl) (by kernel_rfl) (by kernel_rfl) (fun _ _ _ h => h) rfl (fun _ => rfl) (by assumption) ?_
        simp only [Act.put, sS0, sS1, sS2]
        refine wpAnyH_pure 7 (v := .pointer (some ⟨g, h, none⟩)) rfl (by kernel_rfl) (by kernel_rfl) (by kernel_rfl) (fun _ _ _ h => h) rfl (fun _ => by go_simp) (by assumption) ?_
        simp only [Act.put, sS0, sS1, sS2]
        refine wpAnyH_cell 8 (v := .int .i64 u) rfl rfl (fun w' h => by have hc := HRA.out.2 w' h; go_simp) (by kernel_rfl) (by kernel_rfl) (by kernel_rfl) (fun _ _ _ h => h) (by assumption) ?_
        simp only [Act.put, sS0, sS1, sS2]
        refine wpAnyH_one 9 rfl (by kernel_rfl) rfl (fun K hK => ?_)
        go_simp
        go_at_call 72
        (with_reducible refine (HCM.out _ HSW.out).mono ?_)
        rintro ee w2 ⟨rfl, hb⟩
        replace HSW : Sl (RowKit.Below wr.heap.size wr w2) := ⟨hb⟩
        refine hK.out _ _ (Mv.below HSW.out) (fun hHeld => ?_)
        clear hK K hb
        (try simp only [Act.put, sS0, sS1, sS2])
        refine wpAnyH_pure 10 (v := .bool true) rfl (by kernel_rfl) (by kernel_rfl) (by kernel_rfl) (fun _ _ _ h => h) rfl (fun _ => by go_simp) (by assumption) ?_
        simp only [Act.put, sS0, sS1, sS2]
        refine wpAnyH_pure 11 (v := .bool false) rfl (by kernel_rfl) (by kernel_rfl) (by kernel_rfl) (fun _ _ _ h => h) rfl (fun _ => by go_simp) (by assumption) ?_
        simp only [Act.put, sS0, sS1, sS2]
        refine wpAnyH_done (by kernel_rfl) ?_ _
        clear hHeld
        have HW2 : Sl (Mv g w w2 ∧ PBI ws w2 g N d) := ⟨Mv.trans HW.out.1 (Mv.below HSW.out), HW.out.2.below HSW.out HW.out.2.lt⟩
        clear HRA HCM HSW HW
        go_wp2_with fail
        refine ⟨⟨i, h, _, rfl, rfl, rfl, hmi, hhi.1, by omega, HW2, ⟨HC.out.1, fun c' h1 h2 => ?_⟩⟩, by simp [RowKit.intOf]; omega⟩
        exact Int.lt_of_lt_of_le HLT.out (HS.out.1 h c' (by omega) h1 h2)
      · have hcd : decide (c < 0) = false := decide_eq_false (fun h => hyv (HCC.out.1 h))
        have HLT : Sl ((dueI ws) (d h) ≤ (dueI ws) (d m)) := ⟨by omega⟩
        clear hyv
        go_wp2_with fail
        have hm : Mv wr.heap.size wr wr.drew := Mv.drew _ _
        have HSW : Sl (RowKit.Below wr.heap.size wr wr.drew) := ⟨below_drewN (Below.refl _ _) 1⟩
        refine wp_region_held_drew (S := fun w' => Mv wr.heap.size wr w') (by kernel_rfl) hm (fun hHeld => ?_)
        clear hm
        refine wpAnyH_pure 0 (v := .func (.func 72) #[] #[.pointer (some ⟨gf, 0, none⟩)]) rfl (by kernel_rfl) (by kernel_rfl) (by kernel_rfl) (fun _ _ _ h => h) rfl (fun _ => rfl) (by assumption) ?_
        simp only [Act.put, sS0, sS1, sS2]
        refine wpAnyH_pure 1 (v := .slice (some ⟨g, 0, none⟩) N cap) rfl (by kernel_rfl) (by kernel_rfl) (by kernel_rfl) (fun _ _ _ h => h) rfl (fun _ => rfl) (by assumption) ?_
        simp only [Act.put, sS0, sS1, sS2]
        refine wpAnyH_pure 2 (v := .int .i64 (m : Int)) rfl (by kernel_rfl) (by kernel_rfl) (by kernel_rfl) (fun _ _ _ h => h) rfl (fun _ => rfl) (by assumption) ?_
        simp only [Act.put, sS0, sS1, sS2]
        refine wpAnyH_pure 3 (v := .pointer (some ⟨g, m, none⟩)) rfl (by kernel_rfl) (by kernel_rfl) (by kernel_rfl) (fun _ _ _ h => h) rfl (fun _ => by go_simp) (by assumption) ?_
        simp only [Act.put, sS0, sS1, sS2]
        refine wpAnyH_cell 4 (v := .int .i64 x) rfl rfl (fun w' h => by have hc := HRA.out.1 w' h; go_simp) (by kernel_rfl) (by kernel_rfl) (by kernel_rfl) (fun _ _ _ h => h) (by assumption) ?_
        simp only [Act.put, sS0, sS1, sS2]
        refine wpAnyH_pure 5 (v := .slice (some ⟨g, 0, none⟩) N cap) rfl (by kernel_rfl) (by kernel_rfl) (by kernel_rfl) (fun _ _ _ h => h) rfl (fun _ => rfl) (by assumption) ?_
        simp only [Act.put, sS0, sS1, sS2]
        refine wpAnyH_pure 6 (v := .int .i64 (h : Int)) rfl (by kernel_rfl) (by kernel_rfl) (by kernel_rfl) (fun _ _ _ h => h) rfl (fun _ => rfl) (by assumption) ?_
        simp only [Act.put, sS0, sS1, sS2]
        refine wpAnyH_pure 7 (v := .pointer (some ⟨g, h, none⟩)) rfl (by kernel_rfl) (by kernel_rfl) (by kernel_rfl) (fun _ _ _ h => h) rfl (fun _ => by go_simp) (by assumption) ?_
        simp only [Act.put, sS0, sS1, sS2]
        refine wpAnyH_cell 8 (v := .int .i64 u) rfl rfl (fun w' h => by have hc := HRA.out.2 w' h; go_simp) (by kernel_rfl) (by kernel_rfl) (by kernel_rfl) (fun _ _ _ h => h) (by assumption) ?_
        simp only [Act.put, sS0, sS1, sS2]
        refine wpAnyH_one 9 rfl (by kernel_rfl) rfl (fun K hK => ?_)
        go_simp
        go_at_call 72
        (with_reducible refine (HCM.out _ HSW.out).mono ?_)
        rintro ee w2 ⟨rfl, hb⟩
        replace HSW : Sl (RowKit.Below wr.heap.size wr w2) := ⟨hb⟩
        refine hK.out _ _ (Mv.below HSW.out) (fun hHeld => ?_)
        clear hK K hb
        (try simp only [Act.put, sS0, sS1, sS2])
        refine wpAnyH_pure 10 (v := .bool false) rfl (by kernel_rfl) (by kernel_rfl) (by kernel_rfl) (fun _ _ _ h => h) rfl (fun _ => by go_simp) (by assumption) ?_
        simp only [Act.put, sS0, sS1, sS2]
        refine wpAnyH_pure 11 (v := .bool true) rfl (by kernel_rfl) (by kernel_rfl) (by kernel_rfl) (fun _ _ _ h => h) rfl (fun _ => by go_simp) (by assumption) ?_
        simp only [Act.put, sS0, sS1, sS2]
        refine wpAnyH_done (by kernel_rfl) ?_ _
        clear hHeld
        have HW2 : Sl (Mv g w w2 ∧ PBI ws w2 g N d) := ⟨Mv.trans HW.out.1 (Mv.below HSW.out), HW.out.2.below HSW.out HW.out.2.lt⟩
        clear HRA HCM HSW HW
        go_wp2_with fail
        refine ⟨⟨h + 1, j, _, by go_num, rfl, rfl, by omega, by omega, hjb, HW2, ⟨fun c' h1 h2 => ?_, HC.out.2⟩⟩, by simp [RowKit.intOf]; omega⟩
        exact Int.le_trans (HS.out.1 c' h h1 (by omega) (by omega)) HLT.out
    · obtain rfl : i = j := by omega
      have hi6 : (i : Int) ≤ (m : Int) := by omega
      clear hij hlt
      go_wp2_with fail
      go_loopw [17] (fun s17 wr => ∃ (t : Nat), i + t ≤ m ∧ s17 = .int .i64 ((m : Int) - (t : Int)) ∧ Sl (Mv g w wr ∧ PBI ws wr g N (dnTo d m t))) (fun s17 _ => (RowKit.intOf s17).toNat)
      case atStart => exact ⟨0, by omega, by go_num, HW⟩
      case round =>
        clear HW
        obtain ⟨t, htz, rfl, HK⟩ := hrel
        obtain ⟨p, hp⟩ : ∃ p, m - t = p := ⟨_, rfl⟩
        have hpI : (m : Int) - (t : Int) = (p : Int) := by omega
        have HPP : Sl (m = p + t) := ⟨by omega⟩
        rw [hpI]
        by_cases htz2 : i < p
        · obtain ⟨q, hq⟩ : ∃ q, p - 1 = q := ⟨_, rfl⟩
          have hqI : (p : Int) - 1 = (q : Int) := by omega
          have HQQ : Sl (p = q + 1 ∧ i ≤ q) := ⟨by omega⟩
          have hpN : p < N := by omega
          have hqN : q < N := by omega
          have hpN2 : (p : Int) < (N : Int) := by omega
          have hqN2 : (q : Int) < (N : Int) := by omega
          have hqw : IntKind.i64.wrap (q : Int) = (q : Int) := by rw [IntKind.wrap_i64]; omega
          have hpz : (i : Int) < (p : Int) := by omega
          clear ham hmb hbN' hN
          have fp1 := HK.out.2.frozen p
          have fq1 := HK.out.2.frozen q
          have cp1 := HK.out.2.cell hpN
          have cq1 := HK.out.2.cell hqN
          obtain ⟨x, hP⟩ : ∃ P, dnTo d m t p = P := ⟨_, rfl⟩
          obtain ⟨u, hR⟩ : ∃ R, dnTo d m t q = R := ⟨_, rfl⟩
          rw [hP] at cp1
          rw [hR] at cq1
          have HPR : Sl _ := ⟨And.intro hP hR⟩
          have HNN : Sl (p < N ∧ q < N) := ⟨hpN, hqN⟩
          have hne : p ≠ q := by omega
          clear hp hq hP hR hpI
          go_wp2_with fail
          go_region
          go_wp2_with fail
          have hpb := HK.out.2.swap HNN.out.1 HNN.out.2 HPR.out.1 HPR.out.2
          exact ⟨⟨t + 1, by have := HPP.out; have := HQQ.out; omega, by have := HPP.out; have := HQQ.out; congr 1; omega, ⟨Mv.trans HK.out.1 (Mv.trans (Mv.set2 _ _ _ _ _ _) (Mv.drew _ _)), by
            have e1 := HPP.out
            have e2 := HQQ.out.1
            rw [dnTo, show m - t = p by omega, show p - 1 = q by omega]; exact hpb⟩⟩, by have := HQQ.out; simp [RowKit.intOf]; omega⟩
        · have hpz : ¬ (i : Int) < (p : Int) := by omega
          have hpd : decide ((i : Int) < (p : Int)) = false := decide_eq_false hpz
          have HFIN : Sl (Pm a b d (dnTo d m t) ∧ Srt (dueI ws) (dnTo d m t) a b) := ⟨by
            have h1 := H1.out
            have e1 := HPP.out
            refine ⟨dnTo_pm d m t (by omega) (by omega), ?_⟩
            rw [h1]
            exact dnTo_srt HS.out.1 (by omega) (fun c h2 h3 => HC.out.1 c h2 (by omega)) (fun c h2 h3 => HC.out.2 c (by omega) h3)⟩
          have hp6 : (p : Int) ≤ 1000000 := by omega
          clear hp hpI
          go_wp2_with fail
          ((try simp only [Exit.inBlock, Exit.then]); refine bodyPost_ret (results_none rfl _ _ _) rfl ?_)
          exact ⟨rfl, HK.out.1, _, HK.out.2, HFIN.out⟩
end Go.Proofs.YtbaojmfkjpnfhaaGreatDoor
