/- slices.SortStableFunc at a slice of at most twelve numbers, with the order of Keys. (Printed by gentrt.py.) -/
import Derived.Test.YtmcoadmnkelkkaaGreatDoorZtaAd
import Derived.BigRegion
namespace Go.Proofs.YtmcoadmnkelkkaaGreatDoor
set_option linter.unusedSimpArgs false
open Go.RowKit
set_option linter.unusedVariables false
def cmpI (x y : Int) : Int := if x < y then -1 else if y < x then 1 else 0
theorem cmpI_neg (x y : Int) : cmpI x y < 0 ↔ x < y := by
  unfold cmpI
  split
  · constructor
    · intro _; assumption
    · intro _; decide
  · split
    · constructor
      · intro h; exact absurd h (by decide)
      · intro h; omega
    · constructor
      · intro h; exact absurd h (by decide)
      · intro h; omega
theorem isnan_any (x : Int) (w : World) : Calls Tryz.prog 97 #[.int .i64 x] w fun e w' => e = .returned (.bool false) ∧ Below w.heap.size w w' := by
  have HB : Sl (Below w.heap.size w w) := ⟨Below.refl _ _⟩; go_enter Tryz.func97, Tryz.ntmps97; go_wp2_with fail; go_ret; exact ⟨rfl, HB.out⟩
set_option maxHeartbeats 6400000 in
set_option maxRecDepth 100000 in
theorem comp_any (x y : Int) (w : World) : Calls Tryz.prog 65 #[.int .i64 x, .int .i64 y] w fun e w' => e = .returned (.int .i64 (cmpI x y)) ∧ Below w.heap.size w w' := by
  have HB : Sl (Below w.heap.size w w) := ⟨Below.refl _ _⟩; obtain ⟨c, hc⟩ : ∃ c, cmpI x y = c := ⟨_, rfl⟩; rw [hc]; have HC : Sl _ := ⟨hc⟩; clear hc
  by_cases h : x < y
  · skip; have hd : decide (x < y) = true := decide_eq_true h; have HV : Sl (c = -1) := ⟨by rw [← HC.out]; unfold cmpI; rw [if_pos h]⟩; go_enter Tryz.func65, Tryz.ntmps65; go_wp2_with fail; refine (isnan_any x _).mono ?_; rintro e w1 ⟨rfl, hb⟩; replace HB := HB.y hb; clear hb; go_wp2_with fail; refine (isnan_any y _).mono ?_; rintro e w2 ⟨rfl, hb⟩; replace HB := HB.y hb; clear hb; go_wp2_with fail; go_ret; exact ⟨by rw [HV.out]; rfl, HB.out⟩
  · by_cases h2 : y < x
    · skip; have hd : decide (x < y) = false := decide_eq_false h; have hd2 : decide (y < x) = true := decide_eq_true h2; have HV : Sl (c = 1) := ⟨by rw [← HC.out]; unfold cmpI; rw [if_neg h, if_pos h2]⟩; go_enter Tryz.func65, Tryz.ntmps65; go_wp2_with fail; refine (isnan_any x _).mono ?_; rintro e w13 ⟨rfl, hb⟩; replace HB := HB.y hb; clear hb; go_wp2_with fail; refine (isnan_any y _).mono ?_; rintro e w14 ⟨rfl, hb⟩; replace HB := HB.y hb; clear hb; go_wp2_with fail; go_ret; exact ⟨by rw [HV.out]; rfl, HB.out⟩
    · skip; have hd : decide (x < y) = false := decide_eq_false h; have hd2 : decide (y < x) = false := decide_eq_false h2; have HV : Sl (c = 0) := ⟨by rw [← HC.out]; unfold cmpI; rw [if_neg h, if_neg h2]⟩; go_enter Tryz.func65, Tryz.ntmps65; go_wp2_with fail; refine (isnan_any x _).mono ?_; rintro e w25 ⟨rfl, hb⟩; replace HB := HB.y hb; clear hb; go_wp2_with fail; refine (isnan_any y _).mono ?_; rintro e w26 ⟨rfl, hb⟩; replace HB := HB.y hb; clear hb; go_wp2_with fail; go_ret; exact ⟨by rw [HV.out]; rfl, HB.out⟩
set_option maxHeartbeats 6400000 in
set_option maxRecDepth 100000 in
theorem keyc_any (κ : Nat → Int) (gS a b : Nat) (ha : a < 12) (hb : b < 12) (w : World) (hB : IB w gS 12 κ) : Calls Tryz.prog 64 #[.int .i64 (a : Int), .int .i64 (b : Int), .pointer (some ⟨gS, 0, none⟩)] w fun e w' => e = .returned (.int .i64 (cmpI (κ a) (κ b))) ∧ Below w.heap.size w w' := by
  have HB : Sl (Below w.heap.size w w) := ⟨Below.refl _ _⟩; have XS : Sl (IB w gS 12 κ) := ⟨hB⟩; have ORD : Sl (gS < w.heap.size) := ⟨hB.lt⟩; clear hB; obtain ⟨x, hx⟩ : ∃ x, κ a = x := ⟨_, rfl⟩; obtain ⟨y, hy⟩ : ∃ x, κ b = x := ⟨_, rfl⟩; rw [hx, hy]; have HX : Sl _ := ⟨And.intro hx hy⟩; clear hx hy; have ha0 : (0 : Int) ≤ (a : Int) := (by omega); have ha1 : (a : Int) < 12 := (by omega); have hb0 : (0 : Int) ≤ (b : Int) := (by omega); have hb1 : (b : Int) < 12 := (by omega); go_enter Tryz.func64, Tryz.ntmps64; go_wp2_with fail; have hm : Mv w.heap.size w w.drew := Mv.drew _ _; have hs : RowKit.Below w.heap.size w w.drew := below_drewN (Below.refl _ _) 1; have HSW : Sl _ := ⟨hs⟩; clear hs; refine wp_region_held_drew (S := fun w' => Mv w.heap.size w w') (by kernel_rfl) hm (fun hHeld => ?_); clear hm; refine wpAnyH_pure 0 (v := .int .i64 (a : Int)) rfl (by kernel_rfl) (by kernel_rfl) (by kernel_rfl) (fun _ _ _ h => h) rfl (fun _ => rfl) (by assumption) ?_; simp only [Act.put, sS0, sS1, sS2]; refine wpAnyH_pure 1 (v := .pointer (some ⟨gS, a, none⟩)) rfl (by kernel_rfl) (by kernel_rfl) (by kernel_rfl) (fun _ _ _ h => h) rfl (fun _ => by go_simp) (by assumption) ?_; simp only [Act.put, sS0, sS1, sS2]
  refine wpAnyH_cell 2 (v := .int .i64 x) rfl rfl (fun w' h => by
    have e := (XS.out.mv h (by have := XS.out.lt; omega)).cell ha; rw [HX.out.1] at e
    go_simp) (by kernel_rfl) (by kernel_rfl) (by kernel_rfl) (fun _ _ _ h => h) (by assumption) ?_
  simp only [Act.put, sS0, sS1, sS2]; refine wpAnyH_pure 3 (v := .int .i64 (b : Int)) rfl (by kernel_rfl) (by kernel_rfl) (by kernel_rfl) (fun _ _ _ h => h) rfl (fun _ => rfl) (by assumption) ?_; simp only [Act.put, sS0, sS1, sS2]; refine wpAnyH_pure 4 (v := .pointer (some ⟨gS, b, none⟩)) rfl (by kernel_rfl) (by kernel_rfl) (by kernel_rfl) (fun _ _ _ h => h) rfl (fun _ => by go_simp) (by assumption) ?_; simp only [Act.put, sS0, sS1, sS2]
  refine wpAnyH_cell 5 (v := .int .i64 y) rfl rfl (fun w' h => by
    have e := (XS.out.mv h (by have := XS.out.lt; omega)).cell hb; rw [HX.out.2] at e
    go_simp) (by kernel_rfl) (by kernel_rfl) (by kernel_rfl) (fun _ _ _ h => h) (by assumption) ?_
  simp only [Act.put, sS0, sS1, sS2]; refine wpAnyH_one 6 rfl (by kernel_rfl) rfl (fun K hK => ?_); go_simp; go_at_call 65
  (with_reducible refine (comp_any x y _).mono ?_)
  rintro e z1 ⟨rfl, hb⟩; replace HSW := HSW.y hb; refine hK.out _ _ (Mv.below HSW.out) (fun hHeld => ?_); clear hK K hb
  (try simp only [Act.put, sS0, sS1, sS2])
  refine wpAnyH_pure 7 (v := .int .i64 (cmpI x y)) rfl (by kernel_rfl) (by kernel_rfl) (by kernel_rfl) (fun _ _ _ h => h) rfl (fun _ => rfl) (by assumption) ?_; simp only [Act.put, sS0, sS1, sS2]; refine wpAnyH_done (by kernel_rfl) ?_ _; replace HB := HB.y HSW.out; replace XS := XS.xi HSW.out; clear HSW; (try clear hHeld); go_wp2_with fail; go_ret; exact ⟨rfl, HB.out⟩
def keyZ (κ : Nat → Int) (z : Int) : Int := κ z.toNat
set_option maxHeartbeats 6400000 in
set_option maxRecDepth 100000 in
theorem isort_any (κ : Nat → Int) (gS gD n cap : Nat) (f : Nat → Int) (w : World) (hn0 : 1 ≤ n) (hn : n ≤ 12) (hf : ∀ j, j < n → 0 ≤ f j ∧ f j < 12) (hS : IB w gS 12 κ) (hD : IB w gD n f) (hne : gS ≠ gD) :
    Calls Tryz.prog 124 #[.slice (some ⟨gD, 0, none⟩) n cap, .int .i64 0, .int .i64 (n : Int), .func (.func 64) #[] #[.pointer (some ⟨gS, 0, none⟩)]] w fun e w' => e = .returned (.tuple #[]) ∧ Mv gD w w' ∧ IB w' gD n (sorty (keyZ κ) f (n - 1)) := by
  have HF : Sl _ := ⟨hf⟩; have XS : Sl (IB w gS 12 κ) := ⟨hS⟩; have XD : Sl (IB w gD n f) := ⟨hD⟩; have HNE : Sl (gS ≠ gD) := ⟨hne⟩; have HM : Sl (Mv gD w w) := ⟨Mv.refl _ _⟩; clear hf hS hD hne; have hrun : ∀ (args : Array Value) (w : World), (callFunc 64 args).run Tryz.prog w = .ok (.enter 64 args) w := fun a w => by go_simp
  go_enter Tryz.func124, Tryz.ntmps124; go_wp2_with fail
  go_loopw [8] (fun s8 wr => ∃ m : Nat, m + 1 ≤ n ∧ s8 = .int .i64 ((m : Int) + 1) ∧ Sl (Mv gD w wr) ∧ Sl (IB wr gD n (sorty (keyZ κ) f m))) (fun s8 _ => n - (RowKit.intOf s8).toNat)
  case atStart => exact ⟨0, hn0, rfl, HM, XD⟩
  case round =>
    clear HM XD; obtain ⟨m, hm, rfl, HM, XD⟩ := hrel; replace XS : Sl (IB wr gS 12 κ) := ⟨XS.out.mv HM.out HNE.out⟩; have hn2 : (n : Int) ≤ 12 := (by omega)
    by_cases hmn : m + 1 < n
    · have hm1 : (m : Int) + 1 < (n : Int) := (by omega); have hm0 : (0 : Int) ≤ (m : Int) := (by omega)
      have HIN : Sl (∀ i, i < n → 0 ≤ sorty (keyZ κ) f m i ∧ sorty (keyZ κ) f m i < 12) := ⟨fun i hi => by
        by_cases him : i ≤ m
        · exact sorty_in _ f m (fun i hi => HF.out i (by omega)) i him
        · rw [sorty_far _ f m i (by omega)]
          exact HF.out i hi⟩
      go_wp2_with fail; generalize wr = wo at *
      obtain ⟨G, hG⟩ : ∃ G, sorty (keyZ κ) f m = G := ⟨_, rfl⟩; have hT : sorty (keyZ κ) f (m + 1) = sink (keyZ κ) (m + 1) G := (by rw [← hG]; rfl); rw [hG] at XD HIN; have HT : Sl _ := ⟨hT⟩; clear hG hT; have HM0 := HM
      go_loopw [9] (fun s9 wq => ∃ (j : Nat) (g : Nat → Int), j ≤ m + 1 ∧ s9 = .int .i64 (j : Int) ∧ Sl (Mv gD wo wq) ∧ Sl (IB wq gD n g) ∧ Sl (∀ i, i < n → 0 ≤ g i ∧ g i < 12) ∧ Sl (sink (keyZ κ) (m + 1) G = sink (keyZ κ) j g)) (fun s9 _ => (RowKit.intOf s9).toNat)
      case atStart => exact ⟨m + 1, G, Nat.le_refl _, by go_num, ⟨Mv.refl _ _⟩, XD, HIN, ⟨rfl⟩⟩
      case round =>
        clear XD HIN HM; obtain ⟨j, g, hj, rfl, HM, XD, HIN, HSK⟩ := hrel; have XS2 := XS; replace XS : Sl (IB wr gS 12 κ) := ⟨XS2.out.mv HM.out HNE.out⟩
        by_cases hj0 : j = 0
        · subst hj0; have XDF : Sl (IB wr gD n (sink (keyZ κ) 0 g)) := XD; have HB : Sl (Below wr.heap.size wr wr) := ⟨Below.refl _ _⟩; go_wp2_with fail; have hm : Mv wr.heap.size wr wr.drew := Mv.drew _ _; have hs : RowKit.Below wr.heap.size wr wr.drew := below_drewN (Below.refl _ _) 1; have HSW : Sl _ := ⟨hs⟩; clear hs; refine wp_region_held_drew (S := fun w' => Mv wr.heap.size wr w') (by kernel_rfl) hm (fun hHeld => ?_); clear hm; refine wpAnyH_pure 0 (v := .int .i64 0) rfl (by kernel_rfl) (by kernel_rfl) (by kernel_rfl) (fun _ _ _ h => h) rfl (fun _ => rfl) (by assumption) ?_; simp only [Act.put, sS0, sS1, sS2]; refine wpAnyH_pure 1 (v := .int .i64 0) rfl (by kernel_rfl) (by kernel_rfl) (by kernel_rfl) (fun _ _ _ h => h) rfl (fun _ => rfl) (by assumption) ?_; simp only [Act.put, sS0, sS1, sS2]; refine wpAnyH_pure 2 (v := .bool false) rfl (by kernel_rfl) (by kernel_rfl) (by kernel_rfl) (fun _ _ _ h => h) rfl (fun _ => by go_simp) (by assumption) ?_; simp only [Act.put, sS0, sS1, sS2]; refine wpAnyH_pure 3 (v := .bool false) rfl (by kernel_rfl) (by kernel_rfl) (by kernel_rfl) (fun _ _ _ h => h) rfl (fun _ => rfl) (by assumption) ?_; simp only [Act.put, sS0, sS1, sS2]; refine wpAnyH_no 4 rfl (by kernel_rfl) (by kernel_rfl) (by kernel_rfl) (fun _ _ _ h => h) (by rfl) (by assumption) ?_; simp only [Act.put, sS0, sS1, sS2]; refine wpAnyH_no 5 rfl (by kernel_rfl) (by kernel_rfl) (by kernel_rfl) (fun _ _ _ h => h) (by rfl) (by assumption) ?_; simp only [Act.put, sS0, sS1, sS2]; refine wpAnyH_no 6 rfl (by kernel_rfl) (by kernel_rfl) (by kernel_rfl) (fun _ _ _ h => h) (by rfl) (by assumption) ?_; simp only [Act.put, sS0, sS1, sS2]; refine wpAnyH_no 7 rfl (by kernel_rfl) (by kernel_rfl) (by kernel_rfl) (fun _ _ _ h => h) (by rfl) (by assumption) ?_; simp only [Act.put, sS0, sS1, sS2]; refine wpAnyH_no 8 rfl (by kernel_rfl) (by kernel_rfl) (by kernel_rfl) (fun _ _ _ h => h) (by rfl) (by assumption) ?_; simp only [Act.put, sS0, sS1, sS2]; refine wpAnyH_no 9 rfl (by kernel_rfl) (by kernel_rfl) (by kernel_rfl) (fun _ _ _ h => h) (by rfl) (by assumption) ?_; simp only [Act.put, sS0, sS1, sS2]; refine wpAnyH_no 10 rfl (by kernel_rfl) (by kernel_rfl) (by kernel_rfl) (fun _ _ _ h => h) (by rfl) (by assumption) ?_; simp only [Act.put, sS0, sS1, sS2]; refine wpAnyH_no 11 rfl (by kernel_rfl) (by kernel_rfl) (by kernel_rfl) (fun _ _ _ h => h) (by rfl) (by assumption) ?_; simp only [Act.put, sS0, sS1, sS2]; refine wpAnyH_no 12 rfl (by kernel_rfl) (by kernel_rfl) (by kernel_rfl) (fun _ _ _ h => h) (by rfl) (by assumption) ?_; simp only [Act.put, sS0, sS1, sS2]; refine wpAnyH_no 13 rfl (by kernel_rfl) (by kernel_rfl) (by kernel_rfl) (fun _ _ _ h => h) (by rfl) (by assumption) ?_; simp only [Act.put, sS0, sS1, sS2]; refine wpAnyH_no 14 rfl (by kernel_rfl) (by kernel_rfl) (by kernel_rfl) (fun _ _ _ h => h) (by rfl) (by assumption) ?_; simp only [Act.put, sS0, sS1, sS2]
          refine wpAnyH_no 15 rfl (by kernel_rfl) (by kernel_rfl) (by kernel_rfl) (fun _ _ _ h => h) (by rfl) (by assumption) ?_; simp only [Act.put, sS0, sS1, sS2]; refine wpAnyH_pure 16 (v := .bool false) rfl (by kernel_rfl) (by kernel_rfl) (by kernel_rfl) (fun _ _ _ h => h) rfl (fun _ => by go_simp) (by assumption) ?_; simp only [Act.put, sS0, sS1, sS2]; refine wpAnyH_done (by kernel_rfl) ?_ _; replace HB : Sl (Below wr.heap.size wr wr.drew) := ⟨HB.out.trans (HSW.out.mono HB.out.size)⟩; clear HSW; (try clear hHeld); replace HM : Sl (Mv gD wo wr.drew) := ⟨Mv.trans HM.out (Mv.below HB.out)⟩; replace XDF : Sl (IB wr.drew gD n _) := ⟨XDF.out.below HB.out XDF.out.lt⟩; go_wp2_with fail; exact ⟨⟨m + 1, hmn, by go_num, ⟨Mv.trans HM0.out HM.out⟩, ⟨by rw [HT.out, HSK.out]; exact XDF.out⟩⟩, by simp [RowKit.intOf]; omega⟩
        · obtain ⟨i, hi⟩ : ∃ i, j = i + 1 := ⟨j - 1, by omega⟩; have hij : (j : Int) - 1 = (i : Int) := (by omega); have hjn : j < n := (by omega); have hin : i < n := (by omega); have hj1 : (0 : Int) < (j : Int) := (by omega); have hj2 : (j : Int) < (n : Int) := (by omega); have hj3 : (0 : Int) ≤ (j : Int) := (by omega); have hi1 : (0 : Int) ≤ (i : Int) := (by omega); have hi2 : (i : Int) < (n : Int) := (by omega); have hi3 : (i : Int) < 12 := (by omega); have hj4 : 0 < j := (by omega); have hwi : IntKind.i64.wrap (i : Int) = (i : Int) := (by rw [IntKind.wrap_i64]; omega); obtain ⟨hx0, hx1⟩ := HIN.out j hjn; obtain ⟨hy0, hy1⟩ := HIN.out i hin; obtain ⟨x, hx⟩ : ∃ x : Nat, g j = (x : Int) := ⟨(g j).toNat, by omega⟩; obtain ⟨y, hy⟩ : ∃ y : Nat, g i = (y : Int) := ⟨(g i).toNat, by omega⟩; rw [hx] at hx1; rw [hy] at hy1; have hx12 : x < 12 := (by omega); have hy12 : y < 12 := (by omega); have hc := cmpI_neg (κ x) (κ y); have HXY : Sl _ := ⟨And.intro hx hy⟩; have HIJ : Sl _ := ⟨hi⟩
          have HSI : Sl (sink (keyZ κ) j g = if κ x < κ y then sink (keyZ κ) i (upd (upd g j (y : Int)) i (x : Int)) else g) := ⟨by
            rw [hi, sink, ← hi, hx, hy]
            rfl⟩
          have HCC : Sl _ := ⟨hc⟩; clear hx hy hx0 hy0 hx1 hy1 hi hc hj0; obtain ⟨c, hc⟩ : ∃ c, cmpI (κ x) (κ y) = c := ⟨_, rfl⟩
          have HKC : Sl (∀ W : World, IB W gS 12 κ → Calls Tryz.prog 64 #[.int .i64 (x : Int), .int .i64 (y : Int), .pointer (some ⟨gS, 0, none⟩)] W fun e w' => e = .returned (.int .i64 c) ∧ Below W.heap.size W w') := ⟨fun W h => by
            have := keyc_any κ gS x y hx12 hy12 W h; rw [hc] at this
            exact this⟩
          have hcs := HCC.out; rw [hc] at hcs; have HCS : Sl _ := ⟨hcs⟩; clear hc hcs
          by_cases hlt : κ x < κ y
          · have hcd : decide (c < 0) = true := decide_eq_true (HCS.out.2 hlt); have hsk := HSI.out; rw [if_pos hlt] at hsk; have HSN : Sl _ := ⟨hsk⟩; clear hsk hlt; have HB : Sl (Below wr.heap.size wr wr) := ⟨Below.refl _ _⟩; go_wp2_with fail; have hm : Mv wr.heap.size wr wr.drew := Mv.drew _ _; have hs : RowKit.Below wr.heap.size wr wr.drew := below_drewN (Below.refl _ _) 1; have HSW : Sl _ := ⟨hs⟩; clear hs; refine wp_region_held_drew (S := fun w' => Mv wr.heap.size wr w') (by kernel_rfl) hm (fun hHeld => ?_); clear hm; refine wpAnyH_pure 0 (v := .int .i64 (j : Int)) rfl (by kernel_rfl) (by kernel_rfl) (by kernel_rfl) (fun _ _ _ h => h) rfl (fun _ => rfl) (by assumption) ?_; simp only [Act.put, sS0, sS1, sS2]; refine wpAnyH_pure 1 (v := .int .i64 0) rfl (by kernel_rfl) (by kernel_rfl) (by kernel_rfl) (fun _ _ _ h => h) rfl (fun _ => rfl) (by assumption) ?_; simp only [Act.put, sS0, sS1, sS2]; refine wpAnyH_pure 2 (v := .bool true) rfl (by kernel_rfl) (by kernel_rfl) (by kernel_rfl) (fun _ _ _ h => h) rfl (fun _ => by go_simp) (by assumption) ?_; simp only [Act.put, sS0, sS1, sS2]; refine wpAnyH_pure 3 (v := .bool true) rfl (by kernel_rfl) (by kernel_rfl) (by kernel_rfl) (fun _ _ _ h => h) rfl (fun _ => rfl) (by assumption) ?_; simp only [Act.put, sS0, sS1, sS2]; refine wpAnyH_pureg 4 (v := .func (.func 64) #[] #[.pointer (some ⟨gS, 0, none⟩)]) rfl (by kernel_rfl) (by kernel_rfl) (by kernel_rfl) (fun _ _ _ h => h) (by rfl) (fun _ => rfl) (by assumption) ?_; simp only [Act.put, sS0, sS1, sS2]; refine wpAnyH_pureg 5 (v := .slice (some ⟨gD, 0, none⟩) n cap) rfl (by kernel_rfl) (by kernel_rfl) (by kernel_rfl) (fun _ _ _ h => h) (by rfl) (fun _ => rfl) (by assumption) ?_; simp only [Act.put, sS0, sS1, sS2]; refine wpAnyH_pureg 6 (v := .int .i64 (j : Int)) rfl (by kernel_rfl) (by kernel_rfl) (by kernel_rfl) (fun _ _ _ h => h) (by rfl) (fun _ => rfl) (by assumption) ?_; simp only [Act.put, sS0, sS1, sS2]; refine wpAnyH_pureg 7 (v := .pointer (some ⟨gD, j, none⟩)) rfl (by kernel_rfl) (by kernel_rfl) (by kernel_rfl) (fun _ _ _ h => h) (by rfl) (fun _ => by go_simp) (by assumption) ?_; simp only [Act.put, sS0, sS1, sS2]
            refine wpAnyH_cellg 8 (v := .int .i64 (x : Int)) rfl (by rfl) (fun w' h => by
              have e := (XD.out.mv h (by have := XD.out.lt; omega)).cell hjn; rw [HXY.out.1] at e
              go_simp) (by kernel_rfl) (by kernel_rfl) (by kernel_rfl) (fun _ _ _ h => h) (by assumption) ?_
            simp only [Act.put, sS0, sS1, sS2]; refine wpAnyH_pureg 9 (v := .slice (some ⟨gD, 0, none⟩) n cap) rfl (by kernel_rfl) (by kernel_rfl) (by kernel_rfl) (fun _ _ _ h => h) (by rfl) (fun _ => rfl) (by assumption) ?_; simp only [Act.put, sS0, sS1, sS2]; refine wpAnyH_pureg 10 (v := .int .i64 (j : Int)) rfl (by kernel_rfl) (by kernel_rfl) (by kernel_rfl) (fun _ _ _ h => h) (by rfl) (fun _ => rfl) (by assumption) ?_; simp only [Act.put, sS0, sS1, sS2]; refine wpAnyH_pureg 11 (v := .int .i64 (i : Int)) rfl (by kernel_rfl) (by kernel_rfl) (by kernel_rfl) (fun _ _ _ h => h) (by rfl) (fun _ => by go_simp) (by assumption) ?_; simp only [Act.put, sS0, sS1, sS2]; refine wpAnyH_pureg 12 (v := .pointer (some ⟨gD, i, none⟩)) rfl (by kernel_rfl) (by kernel_rfl) (by kernel_rfl) (fun _ _ _ h => h) (by rfl) (fun _ => by go_simp) (by assumption) ?_; simp only [Act.put, sS0, sS1, sS2]
            refine wpAnyH_cellg 13 (v := .int .i64 (y : Int)) rfl (by rfl) (fun w' h => by
              have e := (XD.out.mv h (by have := XD.out.lt; omega)).cell hin; rw [HXY.out.2] at e
              go_simp) (by kernel_rfl) (by kernel_rfl) (by kernel_rfl) (fun _ _ _ h => h) (by assumption) ?_
            simp only [Act.put, sS0, sS1, sS2]; refine wpAnyH_onew 14 rfl (by kernel_rfl) (by rfl) (fun K hK => ?_); go_simp; go_at_call 64
            (with_reducible refine (HKC.out _ (XS.out.below HSW.out XS.out.lt)).mono ?_)
            rintro e z12 ⟨rfl, hb⟩; replace HSW := HSW.y hb; refine hK.out _ _ (Mv.below HSW.out) (fun hHeld => ?_); clear hK K hb
            (try simp only [Act.put, sS0, sS1, sS2])
            refine wpAnyH_pureg 15 (v := .bool true) rfl (by kernel_rfl) (by kernel_rfl) (by kernel_rfl) (fun _ _ _ h => h) (by rfl) (fun _ => by go_simp) (by assumption) ?_; simp only [Act.put, sS0, sS1, sS2]; refine wpAnyH_pure 16 (v := .bool true) rfl (by kernel_rfl) (by kernel_rfl) (by kernel_rfl) (fun _ _ _ h => h) rfl (fun _ => by go_simp) (by assumption) ?_; simp only [Act.put, sS0, sS1, sS2]; refine wpAnyH_done (by kernel_rfl) ?_ _; replace HB : Sl (Below wr.heap.size wr z12) := ⟨HB.out.trans (HSW.out.mono HB.out.size)⟩; replace XS := XS.xi HSW.out; replace XD := XD.xi HSW.out; clear HSW; (try clear hHeld); replace HM : Sl (Mv gD wo z12) := ⟨Mv.trans HM.out (Mv.below HB.out)⟩; clear hcd; go_wp2_with fail; have cj := XD.out.cell hjn; have ci := XD.out.cell hin; rw [HXY.out.1] at cj; rw [HXY.out.2] at ci; have fj := XD.out.frozen j; have fi := XD.out.frozen i
            go_region
            go_wp2_with fail; have hmv := Mv.trans (Mv.trans HM.out (Mv.trans (Mv.setc z12 gD j (.int .i64 (y : Int))) (Mv.setc _ gD i (.int .i64 (x : Int))))) (Mv.drew _ _); have hxd := (XD.out.setc j (y : Int)).setc i (x : Int)
            exact ⟨⟨i, upd (upd g j (y : Int)) i (x : Int), by omega, rfl, ⟨hmv⟩, ⟨hxd⟩, ⟨fun l hl => by
              unfold upd
              split
              · omega
              · split
                · omega
                · exact HIN.out l hl⟩, ⟨HSK.out.trans HSN.out⟩⟩, by simp [RowKit.intOf]; omega⟩
          · have hcd : decide (c < 0) = false := decide_eq_false (fun h => hlt (HCS.out.1 h)); have hsk := HSI.out; rw [if_neg hlt] at hsk; have XDF : Sl (IB wr gD n (sink (keyZ κ) j g)) := ⟨by rw [hsk]; exact XD.out⟩; clear hsk hlt; have HB : Sl (Below wr.heap.size wr wr) := ⟨Below.refl _ _⟩; go_wp2_with fail; have hm : Mv wr.heap.size wr wr.drew := Mv.drew _ _; have hs : RowKit.Below wr.heap.size wr wr.drew := below_drewN (Below.refl _ _) 1; have HSW : Sl _ := ⟨hs⟩; clear hs; refine wp_region_held_drew (S := fun w' => Mv wr.heap.size wr w') (by kernel_rfl) hm (fun hHeld => ?_); clear hm; refine wpAnyH_pure 0 (v := .int .i64 (j : Int)) rfl (by kernel_rfl) (by kernel_rfl) (by kernel_rfl) (fun _ _ _ h => h) rfl (fun _ => rfl) (by assumption) ?_; simp only [Act.put, sS0, sS1, sS2]; refine wpAnyH_pure 1 (v := .int .i64 0) rfl (by kernel_rfl) (by kernel_rfl) (by kernel_rfl) (fun _ _ _ h => h) rfl (fun _ => rfl) (by assumption) ?_; simp only [Act.put, sS0, sS1, sS2]; refine wpAnyH_pure 2 (v := .bool true) rfl (by kernel_rfl) (by kernel_rfl) (by kernel_rfl) (fun _ _ _ h => h) rfl (fun _ => by go_simp) (by assumption) ?_; simp only [Act.put, sS0, sS1, sS2]; refine wpAnyH_pure 3 (v := .bool true) rfl (by kernel_rfl) (by kernel_rfl) (by kernel_rfl) (fun _ _ _ h => h) rfl (fun _ => rfl) (by assumption) ?_; simp only [Act.put, sS0, sS1, sS2]; refine wpAnyH_pureg 4 (v := .func (.func 64) #[] #[.pointer (some ⟨gS, 0, none⟩)]) rfl (by kernel_rfl) (by kernel_rfl) (by kernel_rfl) (fun _ _ _ h => h) (by rfl) (fun _ => rfl) (by assumption) ?_; simp only [Act.put, sS0, sS1, sS2]; refine wpAnyH_pureg 5 (v := .slice (some ⟨gD, 0, none⟩) n cap) rfl (by kernel_rfl) (by kernel_rfl) (by kernel_rfl) (fun _ _ _ h => h) (by rfl) (fun _ => rfl) (by assumption) ?_; simp only [Act.put, sS0, sS1, sS2]; refine wpAnyH_pureg 6 (v := .int .i64 (j : Int)) rfl (by kernel_rfl) (by kernel_rfl) (by kernel_rfl) (fun _ _ _ h => h) (by rfl) (fun _ => rfl) (by assumption) ?_; simp only [Act.put, sS0, sS1, sS2]; refine wpAnyH_pureg 7 (v := .pointer (some ⟨gD, j, none⟩)) rfl (by kernel_rfl) (by kernel_rfl) (by kernel_rfl) (fun _ _ _ h => h) (by rfl) (fun _ => by go_simp) (by assumption) ?_; simp only [Act.put, sS0, sS1, sS2]
            refine wpAnyH_cellg 8 (v := .int .i64 (x : Int)) rfl (by rfl) (fun w' h => by
              have e := (XD.out.mv h (by have := XD.out.lt; omega)).cell hjn; rw [HXY.out.1] at e
              go_simp) (by kernel_rfl) (by kernel_rfl) (by kernel_rfl) (fun _ _ _ h => h) (by assumption) ?_
            simp only [Act.put, sS0, sS1, sS2]; refine wpAnyH_pureg 9 (v := .slice (some ⟨gD, 0, none⟩) n cap) rfl (by kernel_rfl) (by kernel_rfl) (by kernel_rfl) (fun _ _ _ h => h) (by rfl) (fun _ => rfl) (by assumption) ?_; simp only [Act.put, sS0, sS1, sS2]; refine wpAnyH_pureg 10 (v := .int .i64 (j : Int)) rfl (by kernel_rfl) (by kernel_rfl) (by kernel_rfl) (fun _ _ _ h => h) (by rfl) (fun _ => rfl) (by assumption) ?_; simp only [Act.put, sS0, sS1, sS2]; refine wpAnyH_pureg 11 (v := .int .i64 (i : Int)) rfl (by kernel_rfl) (by kernel_rfl) (by kernel_rfl) (fun _ _ _ h => h) (by rfl) (fun _ => by go_simp) (by assumption) ?_; simp only [Act.put, sS0, sS1, sS2]; refine wpAnyH_pureg 12 (v := .pointer (some ⟨gD, i, none⟩)) rfl (by kernel_rfl) (by kernel_rfl) (by kernel_rfl) (fun _ _ _ h => h) (by rfl) (fun _ => by go_simp) (by assumption) ?_; simp only [Act.put, sS0, sS1, sS2]
            refine wpAnyH_cellg 13 (v := .int .i64 (y : Int)) rfl (by rfl) (fun w' h => by
              have e := (XD.out.mv h (by have := XD.out.lt; omega)).cell hin; rw [HXY.out.2] at e
              go_simp) (by kernel_rfl) (by kernel_rfl) (by kernel_rfl) (fun _ _ _ h => h) (by assumption) ?_
            simp only [Act.put, sS0, sS1, sS2]; refine wpAnyH_onew 14 rfl (by kernel_rfl) (by rfl) (fun K hK => ?_); go_simp; go_at_call 64
            (with_reducible refine (HKC.out _ (XS.out.below HSW.out XS.out.lt)).mono ?_)
            rintro e z24 ⟨rfl, hb⟩; replace HSW := HSW.y hb; refine hK.out _ _ (Mv.below HSW.out) (fun hHeld => ?_); clear hK K hb
            (try simp only [Act.put, sS0, sS1, sS2])
            refine wpAnyH_pureg 15 (v := .bool false) rfl (by kernel_rfl) (by kernel_rfl) (by kernel_rfl) (fun _ _ _ h => h) (by rfl) (fun _ => by go_simp) (by assumption) ?_; simp only [Act.put, sS0, sS1, sS2]; refine wpAnyH_pure 16 (v := .bool false) rfl (by kernel_rfl) (by kernel_rfl) (by kernel_rfl) (fun _ _ _ h => h) rfl (fun _ => by go_simp) (by assumption) ?_; simp only [Act.put, sS0, sS1, sS2]; refine wpAnyH_done (by kernel_rfl) ?_ _; replace HB : Sl (Below wr.heap.size wr z24) := ⟨HB.out.trans (HSW.out.mono HB.out.size)⟩; replace XS := XS.xi HSW.out; replace XD := XD.xi HSW.out; clear HSW; (try clear hHeld); replace HM : Sl (Mv gD wo z24) := ⟨Mv.trans HM.out (Mv.below HB.out)⟩; replace XDF : Sl (IB z24 gD n _) := ⟨XDF.out.below HB.out XDF.out.lt⟩; clear hcd; go_wp2_with fail; exact ⟨⟨m + 1, hmn, by go_num, ⟨Mv.trans HM0.out HM.out⟩, ⟨by rw [HT.out, HSK.out]; exact XDF.out⟩⟩, by simp [RowKit.intOf]; omega⟩
    · obtain rfl : n = m + 1 := (by omega); go_wp2_with fail; go_end0; exact ⟨rfl, HM.out, XD.out⟩
set_option maxHeartbeats 6400000 in
set_option maxRecDepth 100000 in
theorem stable_any (κ : Nat → Int) (gS gD n cap : Nat) (f : Nat → Int) (w : World) (hn0 : 1 ≤ n) (hn : n ≤ 12) (hf : ∀ j, j < n → 0 ≤ f j ∧ f j < 12) (hS : IB w gS 12 κ) (hD : IB w gD n f) (hne : gS ≠ gD) :
    Calls Tryz.prog 96 #[.slice (some ⟨gD, 0, none⟩) n cap, .int .i64 (n : Int), .func (.func 64) #[] #[.pointer (some ⟨gS, 0, none⟩)]] w fun e w' => e = .returned (.tuple #[]) ∧ Mv gD w w' ∧ IB w' gD n (sorty (keyZ κ) f (n - 1)) := by
  have HI : Sl _ := ⟨isort_any κ gS gD n cap f w hn0 hn hf hS hD hne⟩; clear hf hS hD hne; have hd1 : decide ((20 : Int) ≤ (n : Int)) = false := decide_eq_false (by omega); have hd2 : decide ((20 : Int) < (n : Int)) = false := decide_eq_false (by omega); go_enter Tryz.func96, Tryz.ntmps96; go_wp2_with fail
  go_loopw [7, 8] (fun s7 s8 wr => s7 = .int .i64 0 ∧ s8 = .int .i64 20 ∧ Sl (w = wr)) (fun _ _ _ => 0)
  case atStart => exact ⟨rfl, rfl, ⟨rfl⟩⟩
  case round =>
    obtain ⟨rfl, rfl, ⟨rfl⟩⟩ := hrel; go_wp2_with fail; refine HI.out.mono ?_; rintro e w2 ⟨rfl, hm, hib⟩; have HM : Sl _ := ⟨And.intro hm hib⟩; clear hm hib HI; go_wp2_with fail
    go_loopw [6] (fun s6 wq => s6 = .int .i64 20 ∧ Sl (Mv gD w wq ∧ IB wq gD n (sorty (keyZ κ) f (n - 1)))) (fun _ _ => 0)
    case atStart => exact ⟨rfl, HM⟩
    case round =>
      clear HM; obtain ⟨rfl, HM⟩ := hrel; go_wp2_with fail; go_end0; exact ⟨rfl, HM.out⟩
set_option maxHeartbeats 6400000 in
set_option maxRecDepth 100000 in
theorem sortst_any (κ : Nat → Int) (gS gD n cap : Nat) (f : Nat → Int) (w : World) (hn0 : 1 ≤ n) (hn : n ≤ 12) (hf : ∀ j, j < n → 0 ≤ f j ∧ f j < 12) (hS : IB w gS 12 κ) (hD : IB w gD n f) (hne : gS ≠ gD) :
    Calls Tryz.prog 63 #[.slice (some ⟨gD, 0, none⟩) n cap, .func (.func 64) #[] #[.pointer (some ⟨gS, 0, none⟩)]] w fun e w' => e = .returned (.tuple #[]) ∧ Mv gD w w' ∧ IB w' gD n (sorty (keyZ κ) f (n - 1)) := by
  have HI : Sl _ := ⟨stable_any κ gS gD n cap f w hn0 hn hf hS hD hne⟩; clear hf hS hD hne; go_enter Tryz.func63, Tryz.ntmps63; go_wp2_with fail; refine HI.out.mono ?_; rintro e w2 ⟨rfl, hm, hib⟩; have HM : Sl _ := ⟨And.intro hm hib⟩; clear hm hib HI; go_wp2_with fail; go_end0; exact ⟨rfl, HM.out⟩
end Go.Proofs.YtmcoadmnkelkkaaGreatDoor
namespace Go.Proofs.YtmcoadmnkelkkaaGreatDoor
set_option linter.unusedSimpArgs false
open Go.RowKit
set_option linter.unusedVariables false
attribute [-simp] Tryz.isAgg67 Tryz.isAgg35 Tryz.isAgg26 Tryz.isAgg24 Tryz.isAgg23 Tryz.isAgg90
noncomputable def TV.ky (t : TV) (j : Nat) : Int := absI (t.xc b54 j (j + 4)) + absI (t.xc b32 j (j + 7))
noncomputable def TV.sm (t : TV) (k j : Nat) : Int := if j < k then t.ky j else 0
def ident (j : Nat) : Int := (j : Int)
theorem upd_ident (k : Nat) : ∀ j, j < k + 1 → upd ident k (k : Int) j = ident j := fun j _ => by
  unfold upd ident
  split
  · rename_i h; rw [h]
  · rfl
theorem TV.sm_step (t : TV) (k : Nat) : ∀ j, j < 12 → upd (t.sm k) k (t.ky k) j = t.sm (k + 1) j := fun j _ => by
  unfold upd TV.sm
  by_cases h : j = k
  · subst h; rw [if_pos rfl, if_pos (by omega)]
  · rw [if_neg h]
    by_cases h2 : j < k
    · rw [if_pos h2, if_pos (by omega)]
    · rw [if_neg h2, if_neg (by omega)]
def Z12 : Array Value := (ints [0, 0, 0, 0, 0, 0, 0, 0, 0, 0, 0, 0]).toArray
theorem alloc_sums (w : World) : (Instr.alloc 90 true (.tuple #[])).run Tryz.prog w = .ok (.pointer (some ⟨w.heap.size, 0, none⟩)) (w.alloc (.cells Z12 90)) := by kernel_rfl
theorem Z12_ib {w : World} {g : Nat} {t : TypeId} (h : Blk w g t Z12) (tt : TV) : IB w g 12 (tt.sm 0) :=
  (IB.of_blk (L := [0, 0, 0, 0, 0, 0, 0, 0, 0, 0, 0, 0]) h rfl).congr fun j hj => by
    unfold TV.sm; rw [if_neg (by omega)]; have : ∀ j, j < 12 → ([0, 0, 0, 0, 0, 0, 0, 0, 0, 0, 0, 0] : List Int)[j]?.getD 0 = 0 := (by decide); exact this j hj
noncomputable def KyR (w w' : World) (e : Ending) (t : TV) : Prop := ILR w w' e (t.chk nameS) 12 (sorty (keyZ t.ky) ident 11)
theorem IB.grown {w w' : World} {g n : Nat} {f : Nat → Int} {row : Option Nat} (h : IB w g n f) (hb : w.grownBy w' row) (hg : some g ≠ row) : IB w' g n f := by
  obtain ⟨t, cs, hB, h1, h2⟩ := h; exact ⟨t, cs, hB.grown hb hg, h1, h2⟩
theorem IB.alloc {w : World} {g n : Nat} {f : Nat → Int} (h : IB w g n f) (o : Obj) : IB (w.alloc o) g n f := by
  obtain ⟨t, cs, hB, h1, h2⟩ := h; exact ⟨t, cs, hB.alloc o, h1, h2⟩
set_option maxHeartbeats 6400000 in
set_option maxRecDepth 100000 in
theorem tKeys_any (t : TV) (hs : t.nm.size ≤ maxLen) (w : World) (hT : PrT w) : Calls Tryz.prog 29 #[.agg t.cells] w fun e w' => KyR w w' e t ∧ Below w.heap.size w w' := by
  have HB : Sl (Below w.heap.size w w) := ⟨Below.refl _ _⟩; have HT : Sl _ := ⟨hT⟩; have HCK : Sl (∀ W : World, Calls Tryz.prog 41 #[.agg t.cells] W fun e w' => e = .returned (.int .i64 (t.chk nameS)) ∧ Below W.heap.size W w') := ⟨fun W => tcheck_any t W hs⟩; clear hT hs; unfold KyR; obtain ⟨c, hc⟩ : ∃ c, t.chk nameS = c := ⟨_, rfl⟩; rw [hc] at HCK; rw [hc]; have HC : Sl _ := ⟨hc⟩; clear hc; obtain ⟨i0, hi0, hz0, hz1, hz2⟩ := info_int; have HI : Sl _ := ⟨And.intro hi0 (And.intro hz0 (And.intro hz1 hz2))⟩; clear hi0 hz0 hz1 hz2; go_enter Tryz.func29, Tryz.ntmps29
  go_wp2_with ((with_reducible show wpList _ _ _ _ _ _); first
    | (refine wpList_box_new 1 rfl rfl 26 (.tmp 0) rfl t.cells rfl (box_temper t) ?_; rintro w1 gT zg zm zs zb; have ORD : Sl (w.heap.size ≤ gT) := ⟨by have := HB.out.size; omega⟩; replace HB := HB.v zm (by have := HB.out.size; have := ORD.out; omega); have XT : Sl (Blk w1 gT 26 t.cells) := ⟨zb⟩; clear zg zm zs zb)
    | (refine wpList_load_whole rfl 26 (.tmp 1) rfl gT rfl 26 t.cells _ XT.out Tryz.underlying26 rfl (size_temper t) ?_))
  refine (HCK.out _).mono ?_; rintro e w2 ⟨rfl, hb⟩; replace HB := HB.y hb; replace XT := XT.x hb; clear hb
  by_cases h0 : c = 0
  · subst h0; have HLO : Sl (∀ (W : World), PrT W → Blk W gT 26 t.cells → Calls Tryz.prog 43 #[.pointer (some ⟨gT, 0, none⟩)] W fun e w' => e = .returned (.agg (flatR (t.N))) ∧ Below W.heap.size W w') := ⟨fun W h hB => notes_any t HC.out gT W h hB⟩; go_wp2_with fail; refine (HLO.out _ (HT.out.below HB.out) XT.out).mono ?_; rintro e w3 ⟨rfl, hb⟩; replace HB := HB.y hb; replace XT := XT.x hb; clear hb
    go_wp2_with ((with_reducible show wpList _ _ _ _ _ _); first
      | (refine wpList_alloc_new 5 rfl rfl 67 rfl (flatR fun _ => RVzero) alloc_twelve ?_; rintro w4 gL zg zm zs zb; replace ORD : Sl (w.heap.size ≤ gT ∧ gT < gL) := ⟨by have := HB.out.size; have := ORD.out; have := XT.out.lt; omega⟩; replace HB := HB.v zm (by have := HB.out.size; have := ORD.out; omega); replace XT := XT.w zm (by have := XT.out.lt; have := ORD.out; omega); have XL : Sl (Blk w4 gL 67 (flatR fun _ => RVzero)) := ⟨zb⟩; clear zg zm zs zb)
      | (refine wpList_store_whole rfl 67 (.tmp 5) (.tmp 14) rfl gL (flatR t.N) rfl rfl 67 (flatR fun _ => RVzero) XL.out (by rw [flatR_size, flatR_size]) (size_twelve _) (flatR_one _) ?_; rintro w5 zm zs zb; replace HB := HB.v zm (by have := HB.out.size; have := ORD.out; omega); replace XT := XT.w zm (by have := XT.out.lt; have := ORD.out; omega); replace XL : Sl (Blk w5 gL 67 (flatR t.N)) := ⟨zb⟩; clear zm zs zb)
      | (refine wpList_alloc_new 6 rfl rfl 90 rfl Z12 alloc_sums ?_; rintro w6 gS zg zm zs zb; replace ORD : Sl (w.heap.size ≤ gT ∧ gT < gL ∧ gL < gS) := ⟨by have := HB.out.size; have := ORD.out; have := XT.out.lt; have := XL.out.lt; omega⟩; replace HB := HB.v zm (by have := HB.out.size; have := ORD.out; omega); replace XT := XT.w zm (by have := XT.out.lt; have := ORD.out; omega); replace XL := XL.w zm (by have := XL.out.lt; have := ORD.out; omega); have XS : Sl (Blk w6 gS 90 Z12) := ⟨zb⟩; clear zg zm zs zb))
    replace XS : Sl (IB w6 gS 12 (t.sm 0)) := ⟨Z12_ib XS.out t⟩; obtain ⟨B0, hB0⟩ : ∃ B, B = gS + 1 := ⟨_, rfl⟩; have HB0 : Sl _ := ⟨hB0⟩; clear hB0; have XO : Sl (w6.ownsRow B0 3 1 (.slice none 0 0) 0 (ints (fl ident 0))) := ⟨World.ownsRow_nil _ _ _ _⟩
    go_loopw [7, 15] (fun so sk wr => ∃ (k : Nat) (v5 : Value), k ≤ 12 ∧ sk = .int .i64 k ∧ v5 = so ∧ Sl (Below w.heap.size w wr) ∧ Sl (Blk wr gL 67 (flatR t.N)) ∧ Sl (IB wr gS 12 (t.sm k)) ∧ Sl (wr.ownsRow B0 3 1 v5 k (ints (fl ident k)))) (fun _ sk _ => 12 - (RowKit.intOf sk).toNat)
    case atStart => exact ⟨0, _, by decide, rfl, rfl, HB, XL, XS, XO⟩
    case round =>
      clear HB XL XS XO XT; obtain ⟨k, v5, hk, rfl, rfl, HB, XL, XS, XO⟩ := hrel
      by_cases hk12 : k < 12
      · have hk1 : (0 : Int) ≤ (k : Int) := (by omega); have hk2 : (k : Int) < 12 := (by omega); have OBXOS : Sl (∀ zk, v5.ownBlock = some zk → gS < zk) := ⟨fun zk hk => by have := (XO.out.lt zk hk).1; have := HB0.out; omega⟩; obtain ⟨x, hx⟩ : ∃ x, t.xc b54 k (k + 4) = x := ⟨_, rfl⟩; obtain ⟨y, hy⟩ : ∃ x, t.xc b32 k (k + 7) = x := ⟨_, rfl⟩; obtain ⟨hx1, hx2⟩ := TV.xc_bd HC.out HT.out pure54 k (k + 4); obtain ⟨hy1, hy2⟩ := TV.xc_bd HC.out HT.out pure32 k (k + 7); rw [hx] at hx1 hx2; rw [hy] at hy1 hy2; obtain ⟨a, ha⟩ : ∃ a, absI x = a := ⟨_, rfl⟩; obtain ⟨b, hb⟩ : ∃ a, absI y = a := ⟨_, rfl⟩; have hab := absI_bd hx1 hx2; have hbb := absI_bd hy1 hy2; rw [ha] at hab; rw [hb] at hbb; obtain ⟨ha1, ha2⟩ := hab; obtain ⟨hb1, hb2⟩ := hbb; have hky : t.ky k = a + b := (by unfold TV.ky; rw [hx, hy, ha, hb]); have HKY : Sl _ := ⟨hky⟩
        have HE3 : Sl (∀ W : World, PrT W → Blk W gL 67 (flatR t.N) → Calls Tryz.prog 59 #[.pointer (some ⟨gL, 0, none⟩), .int .i64 (k : Int)] W fun e w' => e = .returned (.int .i64 x) ∧ Below W.heap.size W w') := ⟨fun W h h2 => by
          have := third_any t HC.out gL k hk12 W h h2; rw [hx] at this
          exact this⟩
        have HE5 : Sl (∀ W : World, PrT W → Blk W gL 67 (flatR t.N) → Calls Tryz.prog 60 #[.pointer (some ⟨gL, 0, none⟩), .int .i64 (k : Int)] W fun e w' => e = .returned (.int .i64 y) ∧ Below W.heap.size W w') := ⟨fun W h h2 => by
          have := fifth_any t HC.out gL k hk12 W h h2; rw [hy] at this
          exact this⟩
        have HSX : Sl (∀ W : World, Calls Tryz.prog 62 #[.int .i64 x] W fun e w' => e = .returned (.int .i64 a) ∧ Below W.heap.size W w') := ⟨fun W => by
          have := tsize_any x W (by omega) (by omega); rw [ha] at this
          exact this⟩
        have HSY : Sl (∀ W : World, Calls Tryz.prog 62 #[.int .i64 y] W fun e w' => e = .returned (.int .i64 b) ∧ Below W.heap.size W w') := ⟨fun W => by
          have := tsize_any y W (by omega) (by omega); rw [hb] at this
          exact this⟩
        clear ha hb hx hy hky hx1 hx2 hy1 hy2; go_wp2_with fail; refine (HE3.out _ (HT.out.below HB.out) XL.out).mono ?_; rintro e w7 ⟨rfl, hb⟩; replace HB := HB.y hb; replace XL := XL.x hb; replace XS := XS.xi hb; replace XO : Sl (w7.ownsRow B0 3 1 v5 k (ints (fl ident k))) := ⟨own_mv XO.out (Mv.of_below hb) (fun zk hk => by have := (XO.out.lt zk hk).2; omega)⟩; clear hb; go_wp2_with fail; refine (HSX.out _).mono ?_; rintro e w8 ⟨rfl, hb⟩; replace HB := HB.y hb; replace XL := XL.x hb; replace XS := XS.xi hb; replace XO : Sl (w8.ownsRow B0 3 1 v5 k (ints (fl ident k))) := ⟨own_mv XO.out (Mv.of_below hb) (fun zk hk => by have := (XO.out.lt zk hk).2; omega)⟩; clear hb; go_wp2_with fail; refine (HE5.out _ (HT.out.below HB.out) XL.out).mono ?_; rintro e w9 ⟨rfl, hb⟩; replace HB := HB.y hb; replace XL := XL.x hb; replace XS := XS.xi hb; replace XO : Sl (w9.ownsRow B0 3 1 v5 k (ints (fl ident k))) := ⟨own_mv XO.out (Mv.of_below hb) (fun zk hk => by have := (XO.out.lt zk hk).2; omega)⟩; clear hb; go_wp2_with fail; refine (HSY.out _).mono ?_; rintro e w10 ⟨rfl, hb⟩; replace HB := HB.y hb; replace XL := XL.x hb; replace XS := XS.xi hb; replace XO : Sl (w10.ownsRow B0 3 1 v5 k (ints (fl ident k))) := ⟨own_mv XO.out (Mv.of_below hb) (fun zk hk => by have := (XO.out.lt zk hk).2; omega)⟩; clear hb
        go_wp2_with ((with_reducible show wpList _ _ _ _ _ _); first
          | (refine wpList_store_ib rfl 2 (.tmp 26) _ rfl gS 12 (k) ((a + b)) (t.sm k) rfl rfl XS.out hk12 size_i64 ?_; rintro w11 zm zs zb; replace HB := HB.v zm (by have := HB.out.size; have := ORD.out; omega); replace XL := XL.w zm (by have := XL.out.lt; have := ORD.out; omega); replace XO : Sl (w11.ownsRow B0 3 1 v5 k (ints (fl ident k))) := ⟨own_mv XO.out zm (fun zk hk => by have := OBXOS.out zk hk; omega)⟩; replace XS : Sl (IB w11 gS 12 (upd (t.sm k) k (a + b))) := ⟨zb⟩; clear zm zs zb)
          | (at_builtin; go_loud (refine wpList_append_any _ rfl (.tmp 27) (.tmp 29) _ rfl B0 3 i0 _ 1 8 Tryz.underlying53 HI.out.1 HI.out.2.1 HI.out.2.2.1 HI.out.2.2.2 rfl (by decide) v5 k _ rfl (own_alloc XO.out _) _ (some ⟨w11.heap.size, 0, none⟩) 1 1 [.int .i64 (k : Int)] rfl (reads_i1 _ _ _) (by intro u hu; simp at hu; subst hu; rfl) (by unfold maxLen; omega) (by omega) (by have := XS.out.lt; have := HB0.out; simp; omega) ?_); rintro v6 wN hown hg hat; have XQ : Sl (wN.ownsRow B0 3 1 v6 (k + 1) (ints (fl ident (k + 1)))) := ⟨by rw [← fl_ext (upd_ident k), ← fl_snoc]; exact hown⟩; have XLN : Sl (Blk wN gL 67 (flatR t.N)) := ⟨(XL.out.alloc _).grown hg (fun h => by have := (XO.out.lt gL h.symm).1; have := HB0.out; have := ORD.out; omega)⟩; have XSN : Sl (IB wN gS 12 (upd (t.sm k) k (a + b))) := ⟨(XS.out.alloc _).grown hg (fun h => by have := (XO.out.lt gS h.symm).1; have := HB0.out; omega)⟩; have HBN : Sl (Below w.heap.size w wN) := ⟨below_grown2 HB.out HB.out.size (own_base XO.out (by have := HB0.out; have := ORD.out; omega)) hg⟩; clear hown hg hat))
        exact ⟨⟨k + 1, v6, hk12, by go_num, rfl, HBN, XLN, ⟨XSN.out.congr (by rw [← HKY.out]; exact t.sm_step k)⟩, XQ⟩, by simp [RowKit.intOf]; omega⟩
      · obtain rfl : k = 12 := (by omega); clear hk12 hk; obtain ⟨gD, cap, rfl, hgD, hIB⟩ := own_ib XO.out (by decide); have XD : Sl (IB wr gD 12 ident) := ⟨hIB⟩; have hne : gS ≠ gD := (by have := HB0.out; omega); have HSO : Sl (∀ W : World, IB W gS 12 t.ky → IB W gD 12 ident → Calls Tryz.prog 63 #[.slice (some ⟨gD, 0, none⟩) 12 cap, .func (.func 64) #[] #[.pointer (some ⟨gS, 0, none⟩)]] W fun e w' => e = .returned (.tuple #[]) ∧ Mv gD W w' ∧ IB w' gD 12 (sorty (keyZ t.ky) ident 11)) := ⟨fun W h h2 => sortst_any t.ky gS gD 12 cap ident W (by decide) (by decide) (fun j hj => by unfold ident; omega) h h2 hne⟩; have XK : Sl (IB wr gS 12 t.ky) := ⟨XS.out.congr fun j hj => by unfold TV.sm; rw [if_pos hj]⟩; have HGD : Sl (w.heap.size ≤ gD) := ⟨by have := HB0.out; have := ORD.out; omega⟩; clear hIB hne hgD XO XS; go_wp2_with fail; refine (HSO.out _ XK.out XD.out).mono ?_; rintro e wz ⟨rfl, hm, hib⟩; replace HB : Sl (Below w.heap.size w wz) := ⟨below_mv HB.out hm HGD.out HB.out.size⟩; have XZ : Sl (IB wz gD 12 (sorty (keyZ t.ky) ident 11)) := ⟨hib⟩; clear hm hib; go_wp2_with fail; go_ret2; exact ⟨⟨fun h => absurd rfl h, fun _ h => absurd h (by decide), fun _ _ => ⟨gD, cap, rfl, HGD.out, XZ.out⟩⟩, HB.out⟩
  · have hz : ((c : Int) != 0) = true := (by rw [bne_iff_ne]; exact h0); go_wp2_with fail; go_ret2; exact ⟨⟨fun _ => rfl, fun h => absurd h h0, fun h => absurd h h0⟩, HB.out⟩
end Go.Proofs.YtmcoadmnkelkkaaGreatDoor
namespace Go.Proofs.YtmcoadmnkelkkaaGreatDoor
set_option linter.unusedSimpArgs false
open Go.RowKit
set_option linter.unusedVariables false
attribute [-simp] Tryz.isAgg35 Tryz.isAgg26 Tryz.isAgg24 Tryz.isAgg23
noncomputable def TV.g (t : TV) (k : Nat) : Nat → Int := sorty (keyZ t.ky) ident (k - 1)
noncomputable def TV.q (t : TV) (k j : Nat) : Int := keyZ t.ky (t.g k j)
theorem keyZ_at (κ : Nat → Int) (k : Nat) : keyZ κ (k : Int) = κ k := rfl
theorem TV.g_far (t : TV) {k i : Nat} (h : k ≤ i) : t.g k i = (i : Int) := by
  unfold TV.g; rw [show (i : Int) = ident i from rfl]; rcases Nat.eq_zero_or_pos k with h0 | h0
  · subst h0; rfl
  · exact sorty_far _ _ _ _ (by omega)
theorem TV.g_one (t : TV) {k : Nat} : ∀ i, i ≤ k → sink (keyZ t.ky) k (upd (t.g k) k (k : Int)) i = t.g (k + 1) i := fun i hi => by
  have e : ∀ i, i ≤ k → upd (t.g k) k (k : Int) i = t.g k i := fun i _ => by
    unfold upd
    split
    · rename_i h; rw [h, t.g_far (Nat.le_refl _)]
    · rfl
  rw [sink_congr _ k _ (t.g k) e i hi]; unfold TV.g; rcases Nat.eq_zero_or_pos k with h0 | h0
  · subst h0; rfl
  · rw [show k + 1 - 1 = (k - 1) + 1 by omega, sorty, show k - 1 + 1 = k by omega]
theorem sink_step {κ : Int → Int} {j i : Nat} {h : Nat → Int} {z : Int} (hi : j = i + 1) (hlt : κ z < κ (h i)) : sink κ j (upd h j z) = sink κ i (upd (upd h j (h i)) i z) := by
  subst hi; have e1 : upd h (i + 1) z (i + 1) = z := (by unfold upd; rw [if_pos rfl]); have e2 : upd h (i + 1) z i = h i := (by unfold upd; rw [if_neg (by omega)]); rw [sink, e1, e2, if_pos hlt]; congr 1; funext x; unfold upd
  split
  · rfl
  · split
    · rfl
    · rfl
theorem sink_stop {κ : Int → Int} {j i : Nat} {h : Nat → Int} {z : Int} (hi : j = i + 1) (hlt : ¬ κ z < κ (h i)) : sink κ j (upd h j z) = upd h j z := by
  subst hi; have e1 : upd h (i + 1) z (i + 1) = z := (by unfold upd; rw [if_pos rfl]); have e2 : upd h (i + 1) z i = h i := (by unfold upd; rw [if_neg (by omega)]); rw [sink, e1, e2, if_neg hlt]
theorem upd_upd (f : Nat → Int) (k : Nat) (x : Int) : upd (upd f k x) k x = upd f k x := by
  funext i; unfold upd
  split <;> rfl
set_option maxHeartbeats 6400000 in
set_option maxRecDepth 100000 in
theorem r5Keys_any (t : TV) (hs : t.nm.size ≤ maxLen) {w0 : World} (hT0 : PrT w0) (w : World) (hT : PrT w) : Calls Tryz.prog 30 #[.agg t.cells] w fun e w' => KyR w w' e t ∧ Below w.heap.size w w' := by
  have HB : Sl (Below w.heap.size w w) := ⟨Below.refl _ _⟩; have HT : Sl _ := ⟨hT⟩; have HNO : Sl (∀ W : World, Calls Tryz.prog 19 #[.agg t.cells] W fun e w' => NotR W w' e t ∧ Below W.heap.size W w') := ⟨fun W => r5Notes_any t hs hT0 W⟩; clear hT hs hT0; unfold KyR; obtain ⟨c, hc⟩ : ∃ c, t.chk nameS = c := ⟨_, rfl⟩; rw [hc]; have HC : Sl _ := ⟨hc⟩; clear hc; obtain ⟨i0, hi0, hz0, hz1, hz2⟩ := info_int; have HI : Sl _ := ⟨And.intro hi0 (And.intro hz0 (And.intro hz1 hz2))⟩; obtain ⟨i1, hi1, hy0, hy1, hy2⟩ := info_i64; have HJ : Sl _ := ⟨And.intro hi1 (And.intro hy0 (And.intro hy1 hy2))⟩; clear hi0 hz0 hz1 hz2 hi1 hy0 hy1 hy2; go_enter Tryz.func30, Tryz.ntmps30
  go_wp2_with ((with_reducible show wpList _ _ _ _ _ _); first
    | (refine wpList_box_new 1 rfl rfl 26 (.tmp 0) rfl t.cells rfl (box_temper t) ?_; rintro w1 gT zg zm zs zb; have ORD : Sl (w.heap.size ≤ gT) := ⟨by have := HB.out.size; omega⟩; replace HB := HB.v zm (by have := HB.out.size; have := ORD.out; omega); have XT : Sl (Blk w1 gT 26 t.cells) := ⟨zb⟩; clear zg zm zs zb)
    | (refine wpList_load_whole rfl 26 (.tmp 1) rfl gT rfl 26 t.cells _ XT.out Tryz.underlying26 rfl (size_temper t) ?_))
  by_cases h0 : c = 0
  · subst h0; refine (HNO.out _).mono ?_; rintro e w2 ⟨⟨_, hf⟩, hb⟩; obtain ⟨gL, rfl, hge, zb⟩ := hf HC.out; clear hf; replace HB := HB.y hb; replace XT := XT.x hb; have XL : Sl (Blk w2 gL 35 (flatR t.N)) := ⟨zb⟩; clear hb hge zb XT; go_wp2_with fail; obtain ⟨B0, hB0⟩ : ∃ B, B = w2.heap.size := ⟨_, rfl⟩; have HB0 : Sl _ := ⟨hB0⟩; clear hB0; have HL : Sl (Below B0 w2 w2) := ⟨Below.refl _ _⟩; have XO : Sl (w2.ownsRow B0 3 1 (.slice none 0 0) 0 (ints (fl (t.g 0) 0))) := ⟨World.ownsRow_nil _ _ _ _⟩; have XU : Sl (w2.ownsRow B0 2 1 (.slice none 0 0) 0 (ints (fl (t.q 0) 0))) := ⟨World.ownsRow_nil _ _ _ _⟩
    go_loopw [6, 7, 8] (fun so su sk wr => ∃ (k : Nat) (v6 v7 : Value), k ≤ 12 ∧ sk = .int .i64 k ∧ v6 = so ∧ v7 = su ∧ Sl (Below B0 w2 wr) ∧ Sl (wr.ownsRow B0 3 1 v6 k (ints (fl (t.g k) k))) ∧ Sl (wr.ownsRow B0 2 1 v7 k (ints (fl (t.q k) k)))) (fun _ _ sk _ => 12 - (RowKit.intOf sk).toNat)
    case atStart => exact ⟨0, _, _, by decide, rfl, rfl, rfl, HL, XO, XU⟩
    case round =>
      clear HL XO XU; obtain ⟨k, v6, v7, hk, rfl, rfl, rfl, HL, XO, XU⟩ := hrel
      by_cases hk12 : k < 12
      · have hk1 : (0 : Int) ≤ (k : Int) := (by omega); have hk2 : (k : Int) < 12 := (by omega); obtain ⟨x, hx⟩ : ∃ x, t.xc b54 k (k + 4) = x := ⟨_, rfl⟩; obtain ⟨y, hy⟩ : ∃ x, t.xc b32 k (k + 7) = x := ⟨_, rfl⟩; obtain ⟨hx1, hx2⟩ := TV.xc_bd HC.out HT.out pure54 k (k + 4); obtain ⟨hy1, hy2⟩ := TV.xc_bd HC.out HT.out pure32 k (k + 7); rw [hx] at hx1 hx2; rw [hy] at hy1 hy2; obtain ⟨a, ha⟩ : ∃ a, absI x = a := ⟨_, rfl⟩; obtain ⟨b, hb⟩ : ∃ a, absI y = a := ⟨_, rfl⟩; have hifx : max x (-x) = a := ha; have hify : max y (-y) = b := hb; have hab := absI_bd hx1 hx2; have hbb := absI_bd hy1 hy2; rw [ha] at hab; rw [hb] at hbb; obtain ⟨ha1, ha2⟩ := hab; obtain ⟨hb1, hb2⟩ := hbb; obtain ⟨z, hz⟩ : ∃ z, a + b = z := ⟨_, rfl⟩; have hky : t.ky k = z := (by unfold TV.ky; rw [hx, hy, ha, hb, hz]); have HKY : Sl _ := ⟨hky⟩; have HDO : Sl _ := ⟨(TV.tp_ok HC.out).hD.1⟩
        have HE3 : Sl (∀ W : World, PrT W → Blk W gL 35 (flatR t.N) → Calls Tryz.prog 61 #[.slice (some ⟨gL, 0, none⟩) 12 12, .int .i64 (k : Int), .int .i64 ((k : Int) + 4), .agg (nr (fun j => b54 j * t.tp.D) t.tp.D).cells] W fun e w' => e = .returned (.int .i64 x) ∧ Below W.heap.size W w') := ⟨fun W h h2 => by
          have := r5excess_any t HC.out gL k (k + 4) hk12 (by omega) pure54 W h h2; rw [show ((k + 4 : Nat) : Int) = (k : Int) + 4 by omega] at this; rw [hx] at this
          exact this⟩
        have HE5 : Sl (∀ W : World, PrT W → Blk W gL 35 (flatR t.N) → Calls Tryz.prog 61 #[.slice (some ⟨gL, 0, none⟩) 12 12, .int .i64 (k : Int), .int .i64 ((k : Int) + 7), .agg (nr (fun j => b32 j * t.tp.D) t.tp.D).cells] W fun e w' => e = .returned (.int .i64 y) ∧ Below W.heap.size W w') := ⟨fun W h h2 => by
          have := r5excess_any t HC.out gL k (k + 7) hk12 (by omega) pure32 W h h2; rw [show ((k + 7 : Nat) : Int) = (k : Int) + 7 by omega] at this; rw [hy] at this
          exact this⟩
        have HC3 : Sl (∀ W : World, Calls Tryz.prog 48 #[.int .i64 5, .int .i64 4] W fun e w' => e = .returned (.agg (nr (fun j => b54 j * t.tp.D) t.tp.D).cells) ∧ Below W.heap.size W w') := ⟨fun W => r5ratio_any _ _ _ W (thi_up HDO.out)⟩; have HC5 : Sl (∀ W : World, Calls Tryz.prog 48 #[.int .i64 3, .int .i64 2] W fun e w' => e = .returned (.agg (nr (fun j => b32 j * t.tp.D) t.tp.D).cells) ∧ Below W.heap.size W w') := ⟨fun W => r5ratio_any _ _ _ W (fif_up HDO.out)⟩; have XL2 : Sl (Blk wr gL 35 (flatR t.N)) := ⟨XL.out.below HL.out (by have := XL.out.lt; have := HB0.out; omega)⟩; have HT2 : Sl (PrT wr) := ⟨(HT.out.below HB.out).below (by have := HL.out; rwa [HB0.out] at this)⟩; clear ha hb hx hy hky; obtain ⟨A6, c6, rfl⟩ := own_slice XO.out; obtain ⟨A7, c7, rfl⟩ := own_slice XU.out; go_wp2_with fail; refine (HC3.out _).mono ?_; rintro e wa ⟨rfl, hb⟩; replace HL : Sl (Below B0 w2 wa) := ⟨HL.out.trans (hb.mono (by have := HL.out.size; have := HB0.out; omega))⟩; replace XO : Sl (wa.ownsRow B0 3 1 (.slice A6 k c6) k (ints (fl (t.g k) k))) := ⟨own_mv XO.out (Mv.of_below hb) (fun zk hk => by have := (XO.out.lt zk hk).2; omega)⟩; replace XU : Sl (wa.ownsRow B0 2 1 (.slice A7 k c7) k (ints (fl (t.q k) k))) := ⟨own_mv XU.out (Mv.of_below hb) (fun zk hk => by have := (XU.out.lt zk hk).2; omega)⟩; replace XL2 := XL2.x hb; replace HT2 : Sl (PrT wa) := ⟨HT2.out.below hb⟩; clear hb; go_wp2_with fail; refine (HE3.out _ HT2.out XL2.out).mono ?_; rintro e wb ⟨rfl, hb⟩; replace HL : Sl (Below B0 w2 wb) := ⟨HL.out.trans (hb.mono (by have := HL.out.size; have := HB0.out; omega))⟩; replace XO : Sl (wb.ownsRow B0 3 1 (.slice A6 k c6) k (ints (fl (t.g k) k))) := ⟨own_mv XO.out (Mv.of_below hb) (fun zk hk => by have := (XO.out.lt zk hk).2; omega)⟩; replace XU : Sl (wb.ownsRow B0 2 1 (.slice A7 k c7) k (ints (fl (t.q k) k))) := ⟨own_mv XU.out (Mv.of_below hb) (fun zk hk => by have := (XU.out.lt zk hk).2; omega)⟩; replace XL2 := XL2.x hb; replace HT2 : Sl (PrT wb) := ⟨HT2.out.below hb⟩; clear hb; go_wp2_with fail; refine (HC5.out _).mono ?_; rintro e wc ⟨rfl, hb⟩; replace HL : Sl (Below B0 w2 wc) := ⟨HL.out.trans (hb.mono (by have := HL.out.size; have := HB0.out; omega))⟩; replace XO : Sl (wc.ownsRow B0 3 1 (.slice A6 k c6) k (ints (fl (t.g k) k))) := ⟨own_mv XO.out (Mv.of_below hb) (fun zk hk => by have := (XO.out.lt zk hk).2; omega)⟩; replace XU : Sl (wc.ownsRow B0 2 1 (.slice A7 k c7) k (ints (fl (t.q k) k))) := ⟨own_mv XU.out (Mv.of_below hb) (fun zk hk => by have := (XU.out.lt zk hk).2; omega)⟩; replace XL2 := XL2.x hb; replace HT2 : Sl (PrT wc) := ⟨HT2.out.below hb⟩; clear hb; go_wp2_with fail; refine (HE5.out _ HT2.out XL2.out).mono ?_; rintro e wd ⟨rfl, hb⟩; replace HL : Sl (Below B0 w2 wd) := ⟨HL.out.trans (hb.mono (by have := HL.out.size; have := HB0.out; omega))⟩
        replace XO : Sl (wd.ownsRow B0 3 1 (.slice A6 k c6) k (ints (fl (t.g k) k))) := ⟨own_mv XO.out (Mv.of_below hb) (fun zk hk => by have := (XO.out.lt zk hk).2; omega)⟩; replace XU : Sl (wd.ownsRow B0 2 1 (.slice A7 k c7) k (ints (fl (t.q k) k))) := ⟨own_mv XU.out (Mv.of_below hb) (fun zk hk => by have := (XU.out.lt zk hk).2; omega)⟩; replace XL2 := XL2.x hb; replace HT2 : Sl (PrT wd) := ⟨HT2.out.below hb⟩; clear hb
        go_wp2_with ((with_reducible show wpList _ _ _ _ _ _); first
          | (at_builtin; go_loud (refine wpList_append_any _ rfl (.tmp 48) (.tmp 50) _ rfl B0 3 i0 _ 1 8 Tryz.underlying53 HI.out.1 HI.out.2.1 HI.out.2.2.1 HI.out.2.2.2 rfl (by decide) (.slice A6 k c6) k _ rfl (own_alloc XO.out _) _ (some ⟨wd.heap.size, 0, none⟩) 1 1 [.int .i64 (k : Int)] rfl (reads_i1 _ _ _) (by intro u hu; simp at hu; subst hu; rfl) (by unfold maxLen; omega) (by omega) (by have := HL.out.size; have := HB0.out; simp; omega) ?_); rintro v8 we hown hg hat; have XO2 : Sl (we.ownsRow B0 3 1 v8 (k + 1) (ints (fl (upd (t.g k) k (k : Int)) (k + 1)))) := ⟨by rw [← fl_snoc]; exact hown⟩; have XU2 : Sl (we.ownsRow B0 2 1 (.slice A7 k c7) k (ints (fl (t.q k) k))) := ⟨own_grown (own_alloc XU.out _) hg (fun b h1 h2 => own_two XU.out XO.out (by decide) b h1 h2)⟩; have HLE : Sl (Below B0 w2 we) := ⟨below_grown2 HL.out (by have := HL.out.size; have := HB0.out; omega) XO.out hg⟩; have HSE : Sl (B0 ≤ we.heap.size) := ⟨by have := hg.size; have := HL.out.size; have := HB0.out; simp at *; omega⟩; clear hown hg hat)
          | (at_builtin; go_loud (refine wpList_append_any _ rfl (.tmp 52) (.tmp 54) _ rfl B0 2 i1 _ 1 8 Tryz.underlying47 HJ.out.1 HJ.out.2.1 HJ.out.2.2.1 HJ.out.2.2.2 rfl (by decide) (.slice A7 k c7) k _ rfl (own_alloc XU2.out _) _ (some ⟨we.heap.size, 0, none⟩) 1 1 [.int .i64 z] rfl (reads_i1 _ _ _) (by intro u hu; simp at hu; subst hu; rfl) (by unfold maxLen; omega) (by omega) (by have := HSE.out; simp; omega) ?_); rintro v9 wf hown hg hat; have XU3 : Sl (wf.ownsRow B0 2 1 v9 (k + 1) (ints (fl (upd (t.q k) k z) (k + 1)))) := ⟨by rw [← fl_snoc]; exact hown⟩; have XO3 : Sl (wf.ownsRow B0 3 1 v8 (k + 1) (ints (fl (upd (t.g k) k (k : Int)) (k + 1)))) := ⟨own_grown (own_alloc XO2.out _) hg (fun b h1 h2 => own_two XO2.out XU2.out (by decide) b h1 h2)⟩; have HLF : Sl (Below B0 w2 wf) := ⟨below_grown2 HLE.out HSE.out XU2.out hg⟩; clear hown hg hat))
        obtain ⟨gO, cO, rfl, hgO, _⟩ := own_ptr XO3.out (by omega); obtain ⟨gU, cU, rfl, hgU, _⟩ := own_ptr XU3.out (by omega); have hOU : gO ≠ gU := fun h => own_two XO3.out XU3.out (by decide) gO rfl (by rw [h]; rfl)
        have HOU : Sl _ := ⟨And.intro hgO (And.intro hgU hOU)⟩; clear hgO hgU hOU XO2 XU2 HLE HSE XO XU HL HT2 XL2 HE3 HE5 HC3 HC5 hifx hify; generalize wr = wo at *
        go_loopw [12] (fun sj wq => ∃ (j : Nat) (h q : Nat → Int), j ≤ k ∧ sj = .int .i64 (j : Int) ∧ Sl (Below B0 w2 wq) ∧ Sl (wq.ownsRow B0 3 1 (.slice (some ⟨gO, 0, none⟩) (k + 1) cO) (k + 1) (ints (fl h (k + 1)))) ∧ Sl (wq.ownsRow B0 2 1 (.slice (some ⟨gU, 0, none⟩) (k + 1) cU) (k + 1) (ints (fl q (k + 1)))) ∧ Sl (sink (keyZ t.ky) k (upd (t.g k) k (k : Int)) = sink (keyZ t.ky) j (upd h j (k : Int))) ∧ Sl (∀ i, i ≤ k → i ≠ j → q i = keyZ t.ky (h i))) (fun sj _ => (RowKit.intOf sj).toNat)
        case atStart => exact ⟨k, _, _, Nat.le_refl _, rfl, HLF, XO3, XU3, ⟨by rw [upd_upd]⟩, ⟨fun i hi hne => by unfold upd; rw [if_neg hne, if_neg hne]; rfl⟩⟩
        case round =>
          clear HLF XO3 XU3; obtain ⟨j, h, q, hj, rfl, HL, XO, XU, HSK, HQ⟩ := hrel; have hj1 : (0 : Int) ≤ (j : Int) := (by omega); have hj2 : (j : Int) < (k : Int) + 1 := (by omega)
          by_cases hj0 : j = 0
          · have hd0 : decide (0 < j) = false := decide_eq_false (by omega); have HJ0 : Sl _ := ⟨hj0⟩; clear hj0; have fo := XO.out.frozenAt j; have fu := XU.out.frozenAt j; have dj := own_cell XU.out (j := j) (by omega); have ej := own_cell XO.out (j := j) (by omega); have dj2 : ∀ x, (wr.setCell ⟨gO, j, none⟩ x).cell? ⟨gU, j, none⟩ = some (.int .i64 (q j)) := fun x => own_cell (own_far XU.out gO j x (fun b hb => by have hb2 : gU = b := Option.some.inj hb; have := HOU.out.2.2; omega)) (j := j) (by omega)
            have dj3 : ∀ x, (wr.drew.setCell ⟨gO, j, none⟩ x).cell? ⟨gU, j, none⟩ = some (.int .i64 (q j)) := fun x => own_cell (own_far (w := wr.drew) XU.out gO j x (fun b hb => by have hb2 : gU = b := Option.some.inj hb; have := HOU.out.2.2; omega)) (j := j) (by omega)
            have fu2 : ∀ x, (wr.setCell ⟨gO, j, none⟩ x).frozen? ⟨gU, j, none⟩ = false := fun x => (own_far XU.out gO j x (fun b hb => by have hb2 : gU = b := Option.some.inj hb; have := HOU.out.2.2; omega)).frozenAt j
            have fu3 : ∀ x, (wr.drew.setCell ⟨gO, j, none⟩ x).frozen? ⟨gU, j, none⟩ = false := fun x => (own_far (w := wr.drew) XU.out gO j x (fun b hb => by have hb2 : gU = b := Option.some.inj hb; have := HOU.out.2.2; omega)).frozenAt j
            go_wp2_with fail; have HSF : Sl (sink (keyZ t.ky) k (upd (t.g k) k (k : Int)) = upd h j (k : Int)) := ⟨HSK.out.trans (by rw [HJ0.out]; rfl)⟩; have YO := own_far (own_setc XO.out (j := j) (by omega) (k : Int)) gU j (.int .i64 z) (fun b hb => by have hb2 : gO = b := Option.some.inj hb; have := HOU.out.2.2; omega); have YU := own_setc (own_far XU.out gO j (.int .i64 (k : Int)) (fun b hb => by have hb2 : gU = b := Option.some.inj hb; have := HOU.out.2.2; omega)) (j := j) (by omega) z; have YL := below_mv (below_mv HL.out (Mv.setc _ gO j (.int .i64 (k : Int))) HOU.out.1 (by have := HB0.out; have := HL.out.size; omega)) (Mv.setc _ gU j (.int .i64 z)) HOU.out.2.1 (by have := HB0.out; have := HL.out.size; simp; omega)
            exact ⟨⟨k + 1, _, _, hk12, by go_num, rfl, rfl, ⟨YL⟩, ⟨by rw [fl_ext (g := upd h j (k : Int)) (fun i hi => by rw [← HSF.out]; exact (t.g_one i (by omega)).symm)]; exact YO⟩, ⟨by
              rw [fl_ext (g := upd q j z) (fun i hi => by
                show keyZ t.ky (t.g (k + 1) i) = _; rw [← t.g_one i (by omega), HSF.out]; unfold upd
                split
                · rw [keyZ_at, HKY.out]
                · rename_i hne; exact (HQ.out i (by omega) hne).symm)]
              exact YU⟩⟩, by simp [RowKit.intOf]; omega⟩
          · obtain ⟨i, hi⟩ : ∃ i, j = i + 1 := ⟨j - 1, by omega⟩; have hij : (j : Int) - 1 = (i : Int) := (by omega); have hi1 : (0 : Int) ≤ (i : Int) := (by omega); have hi2 : (i : Int) < (k : Int) + 1 := (by omega); have hjp : (0 : Int) < (j : Int) := (by omega); have hjp2 : 0 < j := (by omega); have hwi : IntKind.i64.wrap (i : Int) = (i : Int) := (by rw [IntKind.wrap_i64]; omega); have HIJ : Sl _ := ⟨hi⟩; obtain ⟨p, hp⟩ : ∃ p, q i = p := ⟨_, rfl⟩; obtain ⟨u, hu⟩ : ∃ p, h i = p := ⟨_, rfl⟩; have HPU : Sl (p = keyZ t.ky u) := ⟨by rw [← hp, ← hu]; exact HQ.out i (by omega) (by omega)⟩; have cu := own_cell XU.out (j := i) (by omega); have co := own_cell XO.out (j := i) (by omega); rw [hp] at cu; rw [hu] at co; have HPH : Sl _ := ⟨And.intro hp hu⟩; clear hp hu hi hj0
            by_cases hgt : z < p
            · have hd : decide (z < p) = true := decide_eq_true hgt; have HGT : Sl _ := ⟨hgt⟩; clear hgt; have fo := XO.out.frozenAt j; have fu := XU.out.frozenAt j; have dj := own_cell XU.out (j := j) (by omega); have ej := own_cell XO.out (j := j) (by omega); have dj2 : ∀ x, (wr.setCell ⟨gO, j, none⟩ x).cell? ⟨gU, j, none⟩ = some (.int .i64 (q j)) := fun x => own_cell (own_far XU.out gO j x (fun b hb => by have hb2 : gU = b := Option.some.inj hb; have := HOU.out.2.2; omega)) (j := j) (by omega)
              have dj3 : ∀ x, (wr.drew.setCell ⟨gO, j, none⟩ x).cell? ⟨gU, j, none⟩ = some (.int .i64 (q j)) := fun x => own_cell (own_far (w := wr.drew) XU.out gO j x (fun b hb => by have hb2 : gU = b := Option.some.inj hb; have := HOU.out.2.2; omega)) (j := j) (by omega)
              have fu2 : ∀ x, (wr.setCell ⟨gO, j, none⟩ x).frozen? ⟨gU, j, none⟩ = false := fun x => (own_far XU.out gO j x (fun b hb => by have hb2 : gU = b := Option.some.inj hb; have := HOU.out.2.2; omega)).frozenAt j
              have fu3 : ∀ x, (wr.drew.setCell ⟨gO, j, none⟩ x).frozen? ⟨gU, j, none⟩ = false := fun x => (own_far (w := wr.drew) XU.out gO j x (fun b hb => by have hb2 : gU = b := Option.some.inj hb; have := HOU.out.2.2; omega)).frozenAt j
              go_wp2_with fail
              go_region
              go_wp2_with fail; have YO := own_far (own_setc XO.out (j := j) (by omega) u) gU j (.int .i64 p) (fun b hb => by have hb2 : gO = b := Option.some.inj hb; have := HOU.out.2.2; omega); have YU := own_setc (own_far XU.out gO j (.int .i64 u) (fun b hb => by have hb2 : gU = b := Option.some.inj hb; have := HOU.out.2.2; omega)) (j := j) (by omega) p; have YL := below_mv (below_mv (below_mv HL.out (Mv.setc _ gO j (.int .i64 u)) HOU.out.1 (by have := HB0.out; have := HL.out.size; omega)) (Mv.setc _ gU j (.int .i64 p)) HOU.out.2.1 (by have := HB0.out; have := HL.out.size; simp; omega)) (Mv.drew gU _) HOU.out.2.1 (by have := HB0.out; have := HL.out.size; simp; omega)
              exact ⟨⟨i, upd h j u, upd q j p, by omega, rfl, ⟨YL⟩, ⟨YO⟩, ⟨YU⟩, ⟨HSK.out.trans (by
                have hs := sink_step (κ := keyZ t.ky) (h := h) (z := (k : Int)) HIJ.out (by rw [HPH.out.2, ← HPU.out, keyZ_at, HKY.out]; exact HGT.out); rw [HPH.out.2] at hs
                exact hs)⟩, ⟨fun l hl hne => by
                unfold upd
                by_cases hlj : l = j
                · rw [if_pos hlj, if_pos hlj]; exact HPU.out
                · rw [if_neg hlj, if_neg hlj]; exact HQ.out l hl hlj⟩⟩, by simp [RowKit.intOf]; omega⟩
            · have hd : decide (z < p) = false := decide_eq_false hgt; have HGT : Sl _ := ⟨hgt⟩; clear hgt; have fo := XO.out.frozenAt j; have fu := XU.out.frozenAt j; have dj := own_cell XU.out (j := j) (by omega); have ej := own_cell XO.out (j := j) (by omega); have dj2 : ∀ x, (wr.setCell ⟨gO, j, none⟩ x).cell? ⟨gU, j, none⟩ = some (.int .i64 (q j)) := fun x => own_cell (own_far XU.out gO j x (fun b hb => by have hb2 : gU = b := Option.some.inj hb; have := HOU.out.2.2; omega)) (j := j) (by omega)
              have dj3 : ∀ x, (wr.drew.setCell ⟨gO, j, none⟩ x).cell? ⟨gU, j, none⟩ = some (.int .i64 (q j)) := fun x => own_cell (own_far (w := wr.drew) XU.out gO j x (fun b hb => by have hb2 : gU = b := Option.some.inj hb; have := HOU.out.2.2; omega)) (j := j) (by omega)
              have fu2 : ∀ x, (wr.setCell ⟨gO, j, none⟩ x).frozen? ⟨gU, j, none⟩ = false := fun x => (own_far XU.out gO j x (fun b hb => by have hb2 : gU = b := Option.some.inj hb; have := HOU.out.2.2; omega)).frozenAt j
              have fu3 : ∀ x, (wr.drew.setCell ⟨gO, j, none⟩ x).frozen? ⟨gU, j, none⟩ = false := fun x => (own_far (w := wr.drew) XU.out gO j x (fun b hb => by have hb2 : gU = b := Option.some.inj hb; have := HOU.out.2.2; omega)).frozenAt j
              go_wp2_with fail; have HSF : Sl (sink (keyZ t.ky) k (upd (t.g k) k (k : Int)) = upd h j (k : Int)) := ⟨HSK.out.trans (sink_stop HIJ.out (by rw [HPH.out.2, ← HPU.out, keyZ_at, HKY.out]; have := HGT.out; omega))⟩; have YO := own_far (own_setc XO.out (j := j) (by omega) (k : Int)) gU j (.int .i64 z) (fun b hb => by have hb2 : gO = b := Option.some.inj hb; have := HOU.out.2.2; omega); have YU := own_setc (own_far XU.out gO j (.int .i64 (k : Int)) (fun b hb => by have hb2 : gU = b := Option.some.inj hb; have := HOU.out.2.2; omega)) (j := j) (by omega) z; have YL := below_mv (below_mv HL.out (Mv.setc _ gO j (.int .i64 (k : Int))) HOU.out.1 (by have := HB0.out; have := HL.out.size; omega)) (Mv.setc _ gU j (.int .i64 z)) HOU.out.2.1 (by have := HB0.out; have := HL.out.size; simp; omega)
              exact ⟨⟨k + 1, _, _, hk12, by go_num, rfl, rfl, ⟨YL⟩, ⟨by rw [fl_ext (g := upd h j (k : Int)) (fun i hi => by rw [← HSF.out]; exact (t.g_one i (by omega)).symm)]; exact YO⟩, ⟨by
                rw [fl_ext (g := upd q j z) (fun i hi => by
                  show keyZ t.ky (t.g (k + 1) i) = _; rw [← t.g_one i (by omega), HSF.out]; unfold upd
                  split
                  · rw [keyZ_at, HKY.out]
                  · rename_i hne; exact (HQ.out i (by omega) hne).symm)]
                exact YU⟩⟩, by simp [RowKit.intOf]; omega⟩
      · obtain rfl : k = 12 := (by omega); clear hk12 hk; obtain ⟨gD, cap, rfl, hgD, hIB⟩ := own_ib XO.out (by decide); have XD : Sl (IB wr gD 12 (t.g 12)) := ⟨hIB⟩; have HGD : Sl (w.heap.size ≤ gD) := ⟨by have := HB0.out; have := HB.out.size; omega⟩; clear hIB hgD XO; go_wp2_with fail; go_ret2; exact ⟨⟨fun h => absurd rfl h, fun _ h => absurd h (by decide), fun _ _ => ⟨gD, cap, rfl, HGD.out, XD.out⟩⟩, HB.out.trans (HL.out.mono (by have := HB0.out; have := HB.out.size; omega))⟩
  · skip; refine (HNO.out _).mono ?_; rintro e w63 ⟨⟨hf, _⟩, hb⟩; obtain rfl := hf (by rw [HC.out]; exact h0); clear hf; rw [HC.out]; replace HB := HB.y hb; replace XT := XT.x hb; clear hb; have hz : ((c : Int) != 0) = true := (by rw [bne_iff_ne]; exact h0); go_wp2_with fail; go_ret2; exact ⟨⟨fun _ => rfl, fun h => absurd h h0, fun h => absurd h h0⟩, HB.out⟩
end Go.Proofs.YtmcoadmnkelkkaaGreatDoor
namespace Go.Proofs.YtmcoadmnkelkkaaGreatDoor
set_option linter.unusedSimpArgs false
open Go.RowKit
set_option linter.unusedVariables false
attribute [-simp] Tryz.isAgg67 Tryz.isAgg35 Tryz.isAgg26 Tryz.isAgg24 Tryz.isAgg23
def Told (w : World) (v : Value) (c : Int) (n : Nat) (f : Nat → Int) : Prop :=
  (¬ (c = 0 ∧ 0 < n) → v = .slice none 0 0) ∧ (c = 0 ∧ 0 < n → ∃ g cap, v = .slice (some ⟨g, 0, none⟩) n cap ∧ IB w g n f)
theorem Told.below {w w' : World} {v : Value} {c : Int} {n : Nat} {f : Nat → Int} (h : Told w v c n f) (hb : Below w.heap.size w w') : Told w' v c n f :=
  ⟨h.1, fun hc => by
    obtain ⟨g, cap, e, hI⟩ := h.2 hc
    exact ⟨g, cap, e, hI.below hb hI.lt⟩⟩
theorem Told.longs {w : World} {v1 v2 : Value} {c : Int} {n : Nat} {f : Nat → Int} (h1 : Told w v1 c n f) (h2 : Told w v2 c n f) (hn : n ≤ 12) : Calls Tryz.prog 26 #[v1, v2] w fun e w' => e = .returned (.bool true) ∧ Below w.heap.size w w' := by
  by_cases hc : c = 0 ∧ 0 < n
  · obtain ⟨g1, c1, rfl, i1⟩ := h1.2 hc; obtain ⟨g2, c2, rfl, i2⟩ := h2.2 hc; exact sameLongs_any f g1 g2 n c1 c2 w hn i1 i2
  · obtain rfl := h1.1 hc; obtain rfl := h2.1 hc; exact sameLongs_none w
theorem Told.ints {w : World} {v1 v2 : Value} {c : Int} {n : Nat} {f : Nat → Int} (h1 : Told w v1 c n f) (h2 : Told w v2 c n f) (hn : n ≤ 12) : Calls Tryz.prog 33 #[v1, v2] w fun e w' => e = .returned (.bool true) ∧ Below w.heap.size w w' := by
  by_cases hc : c = 0 ∧ 0 < n
  · obtain ⟨g1, c1, rfl, i1⟩ := h1.2 hc; obtain ⟨g2, c2, rfl, i2⟩ := h2.2 hc; exact sameInts_any f g1 g2 n c1 c2 w hn i1 i2
  · obtain rfl := h1.1 hc; obtain rfl := h2.1 hc; exact sameInts_none w
theorem CentsT.told {w w' : World} {e : Ending} {t : TV} (h : CentsT w w' e t) : ∃ v, e = .returned (.tuple #[v, .int .i64 (t.chk nameS)]) ∧ Told w' v (t.chk nameS) 12 t.c := by
  by_cases hc : t.chk nameS = 0
  · obtain ⟨v, rfl, ho⟩ := h.2 hc; obtain ⟨g, cap, rfl, _, hI⟩ := IB.of_own ho (by decide); exact ⟨_, by rw [hc], fun hn => absurd ⟨hc, by decide⟩ hn, fun _ => ⟨g, cap, rfl, hI.congr fun j hj => t.cl_at hj⟩⟩
  · exact ⟨_, h.1 hc, fun _ => rfl, fun hn => absurd hn.1 hc⟩
theorem ILR.told {w w' : World} {e : Ending} {c : Int} {n : Nat} {f : Nat → Int} (h : ILR w w' e c n f) : ∃ v, e = .returned (.tuple #[v, .int .i64 c]) ∧ Told w' v c n f := by
  by_cases hc : c = 0
  · subst hc; rcases Nat.eq_zero_or_pos n with hn | hn
    · exact ⟨_, h.2.1 rfl hn, fun _ => rfl, fun h2 => absurd h2.2 (by omega)⟩
    · obtain ⟨g, cap, rfl, _, hI⟩ := h.2.2 rfl hn; exact ⟨_, rfl, fun h2 => absurd ⟨rfl, hn⟩ h2, fun _ => ⟨g, cap, rfl, hI⟩⟩
  · exact ⟨_, h.1 hc, fun _ => rfl, fun hn => absurd hn.1 hc⟩
theorem WoR.told {w w' : World} {e : Ending} {t : TV} {most : Int} (h : WoR w w' e t most) : ∃ v, e = .returned (.tuple #[v, .int .i64 (t.wc most)]) ∧ Told w' v (t.wc most) (t.wl most 12).length (fun j => (t.wl most 12)[j]?.getD 0) := by
  by_cases hc : t.wc most = 0
  · obtain ⟨v, rfl, ho, hz⟩ := h.2 hc; refine ⟨v, by rw [hc], fun hn => hz (by omega), fun hn => ?_⟩; obtain ⟨g, cap, rfl, _, hI⟩ := IB.of_own ho hn.2; exact ⟨g, cap, rfl, hI⟩
  · exact ⟨_, h.1 hc, fun _ => rfl, fun hn => absurd hn.1 hc⟩
set_option maxHeartbeats 6400000 in
set_option maxRecDepth 100000 in
theorem temperTables_any (t : TV) (hs : t.nm.size ≤ maxLen) (a most : Int) (w : World) (hT : PrT w) : Calls Tryz.prog 5 #[.agg t.cells, .int .i64 a, .int .i64 most] w fun e w' => e = .returned (.bool true) ∧ Below w.heap.size w w' := by
  have HB : Sl (Below w.heap.size w w) := ⟨Below.refl _ _⟩; have HT : Sl _ := ⟨hT⟩; have H1 : Sl (∀ W : World, PrT W → Calls Tryz.prog 22 #[.agg t.cells] W fun e w' => (∃ v, e = .returned (.tuple #[v, .int .i64 (t.chk nameS)]) ∧ Told w' v (t.chk nameS) 12 t.c) ∧ Below W.heap.size W w') := ⟨fun W h => (tCents_any t hs W h).mono fun e w' hh => ⟨hh.1.told, hh.2⟩⟩; have H2 : Sl (∀ W : World, PrT W → Calls Tryz.prog 23 #[.agg t.cells] W fun e w' => (∃ v, e = .returned (.tuple #[v, .int .i64 (t.chk nameS)]) ∧ Told w' v (t.chk nameS) 12 t.c) ∧ Below W.heap.size W w') := ⟨fun W h => (r5Cents_any t hs hT W).mono fun e w' hh => ⟨hh.1.told, hh.2⟩⟩; have H3 : Sl (∀ W : World, PrT W → Calls Tryz.prog 24 #[.agg t.cells] W fun e w' => (∃ v, e = .returned (.tuple #[v, .int .i64 (t.chk nameS)]) ∧ Told w' v (t.chk nameS) 12 (t.of 12)) ∧ Below W.heap.size W w') := ⟨fun W h => (tOff_any t hs hT W h).mono fun e w' hh => ⟨hh.1.told, hh.2⟩⟩; have H4 : Sl (∀ W : World, PrT W → Calls Tryz.prog 25 #[.agg t.cells] W fun e w' => (∃ v, e = .returned (.tuple #[v, .int .i64 (t.chk nameS)]) ∧ Told w' v (t.chk nameS) 12 (t.of 12)) ∧ Below W.heap.size W w') := ⟨fun W h => (r5Off_any t hs hT W h).mono fun e w' hh => ⟨hh.1.told, hh.2⟩⟩; have H5 : Sl _ := ⟨fun (W : World) (h : PrT W) => ttriad_any t hs a W h⟩; have H6 : Sl _ := ⟨fun (W : World) (h : PrT W) => r5Triad_any t hs a W h⟩; have H7 : Sl (∀ W : World, PrT W → Calls Tryz.prog 29 #[.agg t.cells] W fun e w' => (∃ v, e = .returned (.tuple #[v, .int .i64 (t.chk nameS)]) ∧ Told w' v (t.chk nameS) 12 (sorty (keyZ t.ky) ident 11)) ∧ Below W.heap.size W w') := ⟨fun W h => (tKeys_any t hs W h).mono fun e w' hh => ⟨ILR.told hh.1, hh.2⟩⟩; have H8 : Sl (∀ W : World, PrT W → Calls Tryz.prog 30 #[.agg t.cells] W fun e w' => (∃ v, e = .returned (.tuple #[v, .int .i64 (t.chk nameS)]) ∧ Told w' v (t.chk nameS) 12 (sorty (keyZ t.ky) ident 11)) ∧ Below W.heap.size W w') := ⟨fun W h => (r5Keys_any t hs hT W h).mono fun e w' hh => ⟨ILR.told hh.1, hh.2⟩⟩; have H9 : Sl (∀ W : World, PrT W → Calls Tryz.prog 31 #[.agg t.cells, .int .i64 most] W fun e w' => (∃ v, e = .returned (.tuple #[v, .int .i64 (t.wc most)]) ∧ Told w' v (t.wc most) (t.wl most 12).length (fun j => (t.wl most 12)[j]?.getD 0)) ∧ Below W.heap.size W w') := ⟨fun W h => (tWolves_any t hs most hT W h).mono fun e w' hh => ⟨hh.1.told, hh.2⟩⟩; have HX : Sl (∀ W : World, PrT W → Calls Tryz.prog 32 #[.agg t.cells, .int .i64 most] W fun e w' => (∃ v, e = .returned (.tuple #[v, .int .i64 (t.wc most)]) ∧ Told w' v (t.wc most) (t.wl most 12).length (fun j => (t.wl most 12)[j]?.getD 0)) ∧ Below W.heap.size W w') := ⟨fun W h => (r5Wolves_any t hs most hT W h).mono fun e w' hh => ⟨hh.1.told, hh.2⟩⟩; have HAW : Sl _ := ⟨fun (W : World) (h : PrT W) => awake5_any W h⟩; have HLN : Sl ((t.wl most 12).length ≤ 12) := ⟨t.wl_len most 12⟩; clear hT hs; generalize t.chk nameS = c at *
  generalize t.wc most = d at *
  generalize (fun j : Nat => (t.wl most 12)[j]?.getD 0) = fw at *
  generalize hwl : (t.wl most 12).length = n at *
  generalize t.tri a = tr at *
  obtain ⟨x, y, z⟩ := tr; simp only at H5 H6; clear hwl; go_enter Tryz.func5, Tryz.ntmps5
  go_wp2_with ((with_reducible show wpList _ _ _ _ _ _); first
    | (refine wpList_box_new 3 rfl rfl 26 (.tmp 0) rfl t.cells rfl (box_temper t) ?_; rintro w1 gT zg zm zs zb; have ORD : Sl (w.heap.size ≤ gT) := ⟨by have := HB.out.size; omega⟩; replace HB := HB.v zm (by have := HB.out.size; have := ORD.out; omega); have XT : Sl (Blk w1 gT 26 t.cells) := ⟨zb⟩; clear zg zm zs zb)
    | (refine wpList_load_whole rfl 26 (.tmp 3) rfl gT rfl 26 t.cells _ XT.out Tryz.underlying26 rfl (size_temper t) ?_))
  refine (H1.out _ (HT.out.below HB.out)).mono ?_; rintro e w2 ⟨⟨v1, rfl, ht⟩, hb⟩; replace HB := HB.y hb; replace XT := XT.x hb; have P1 : Sl (Told w2 v1 c 12 t.c) := ⟨ht⟩; clear hb ht
  go_wp2_with ((with_reducible show wpList _ _ _ _ _ _); first
    | (refine wpList_load_whole rfl 26 (.tmp 3) rfl gT rfl 26 t.cells _ XT.out Tryz.underlying26 rfl (size_temper t) ?_))
  refine (H2.out _ (HT.out.below HB.out)).mono ?_; rintro e w3 ⟨⟨v2, rfl, ht⟩, hb⟩; replace P1 : Sl (Told w3 v1 c 12 t.c) := ⟨P1.out.below hb⟩; replace HB := HB.y hb; replace XT := XT.x hb; have P2 : Sl (Told w3 v2 c 12 t.c) := ⟨ht⟩; clear hb ht
  go_wp2_with ((with_reducible show wpList _ _ _ _ _ _); first
    | (refine wpList_load_whole rfl 26 (.tmp 3) rfl gT rfl 26 t.cells _ XT.out Tryz.underlying26 rfl (size_temper t) ?_))
  refine (H3.out _ (HT.out.below HB.out)).mono ?_; rintro e w4 ⟨⟨v3, rfl, ht⟩, hb⟩; replace P1 : Sl (Told w4 v1 c 12 t.c) := ⟨P1.out.below hb⟩; replace P2 : Sl (Told w4 v2 c 12 t.c) := ⟨P2.out.below hb⟩; replace HB := HB.y hb; replace XT := XT.x hb; have P3 : Sl (Told w4 v3 c 12 (t.of 12)) := ⟨ht⟩; clear hb ht
  go_wp2_with ((with_reducible show wpList _ _ _ _ _ _); first
    | (refine wpList_load_whole rfl 26 (.tmp 3) rfl gT rfl 26 t.cells _ XT.out Tryz.underlying26 rfl (size_temper t) ?_))
  refine (H4.out _ (HT.out.below HB.out)).mono ?_; rintro e w5 ⟨⟨v4, rfl, ht⟩, hb⟩; replace P1 : Sl (Told w5 v1 c 12 t.c) := ⟨P1.out.below hb⟩; replace P2 : Sl (Told w5 v2 c 12 t.c) := ⟨P2.out.below hb⟩; replace P3 : Sl (Told w5 v3 c 12 (t.of 12)) := ⟨P3.out.below hb⟩; replace HB := HB.y hb; replace XT := XT.x hb; have P4 : Sl (Told w5 v4 c 12 (t.of 12)) := ⟨ht⟩; clear hb ht; go_wp2_with fail; refine (P1.out.longs P2.out (by decide)).mono ?_; rintro e w6 ⟨rfl, hb⟩; replace P1 : Sl (Told w6 v1 c 12 t.c) := ⟨P1.out.below hb⟩; replace P2 : Sl (Told w6 v2 c 12 t.c) := ⟨P2.out.below hb⟩; replace P3 : Sl (Told w6 v3 c 12 (t.of 12)) := ⟨P3.out.below hb⟩; replace P4 : Sl (Told w6 v4 c 12 (t.of 12)) := ⟨P4.out.below hb⟩; replace HB := HB.y hb; replace XT := XT.x hb; clear hb; go_wp2_with fail; refine (P3.out.longs P4.out (by decide)).mono ?_; rintro e w7 ⟨rfl, hb⟩; replace P1 : Sl (Told w7 v1 c 12 t.c) := ⟨P1.out.below hb⟩; replace P2 : Sl (Told w7 v2 c 12 t.c) := ⟨P2.out.below hb⟩; replace P3 : Sl (Told w7 v3 c 12 (t.of 12)) := ⟨P3.out.below hb⟩; replace P4 : Sl (Told w7 v4 c 12 (t.of 12)) := ⟨P4.out.below hb⟩; replace HB := HB.y hb; replace XT := XT.x hb; clear hb; clear P1 P2 P3 P4
  go_wp2_with ((with_reducible show wpList _ _ _ _ _ _); first
    | (refine wpList_load_whole rfl 26 (.tmp 3) rfl gT rfl 26 t.cells _ XT.out Tryz.underlying26 rfl (size_temper t) ?_))
  refine (H5.out _ (HT.out.below HB.out)).mono ?_; rintro e w8 ⟨rfl, hb⟩; replace HB := HB.y hb; replace XT := XT.x hb; clear hb
  go_wp2_with ((with_reducible show wpList _ _ _ _ _ _); first
    | (refine wpList_load_whole rfl 26 (.tmp 3) rfl gT rfl 26 t.cells _ XT.out Tryz.underlying26 rfl (size_temper t) ?_))
  refine (H6.out _ (HT.out.below HB.out)).mono ?_; rintro e w9 ⟨rfl, hb⟩; replace HB := HB.y hb; replace XT := XT.x hb; clear hb
  go_wp2_with ((with_reducible show wpList _ _ _ _ _ _); first
    | (refine wpList_load_whole rfl 26 (.tmp 3) rfl gT rfl 26 t.cells _ XT.out Tryz.underlying26 rfl (size_temper t) ?_))
  refine (H7.out _ (HT.out.below HB.out)).mono ?_; rintro e w10 ⟨⟨v5, rfl, ht⟩, hb⟩; replace HB := HB.y hb; replace XT := XT.x hb; have P5 : Sl (Told w10 v5 c 12 (sorty (keyZ t.ky) ident 11)) := ⟨ht⟩; clear hb ht
  go_wp2_with ((with_reducible show wpList _ _ _ _ _ _); first
    | (refine wpList_load_whole rfl 26 (.tmp 3) rfl gT rfl 26 t.cells _ XT.out Tryz.underlying26 rfl (size_temper t) ?_))
  refine (H8.out _ (HT.out.below HB.out)).mono ?_; rintro e w11 ⟨⟨v6, rfl, ht⟩, hb⟩; replace P5 : Sl (Told w11 v5 c 12 (sorty (keyZ t.ky) ident 11)) := ⟨P5.out.below hb⟩; replace HB := HB.y hb; replace XT := XT.x hb; have P6 : Sl (Told w11 v6 c 12 (sorty (keyZ t.ky) ident 11)) := ⟨ht⟩; clear hb ht
  go_wp2_with ((with_reducible show wpList _ _ _ _ _ _); first
    | (refine wpList_load_whole rfl 26 (.tmp 3) rfl gT rfl 26 t.cells _ XT.out Tryz.underlying26 rfl (size_temper t) ?_))
  refine (H9.out _ (HT.out.below HB.out)).mono ?_; rintro e w12 ⟨⟨v7, rfl, ht⟩, hb⟩; replace P5 : Sl (Told w12 v5 c 12 (sorty (keyZ t.ky) ident 11)) := ⟨P5.out.below hb⟩; replace P6 : Sl (Told w12 v6 c 12 (sorty (keyZ t.ky) ident 11)) := ⟨P6.out.below hb⟩; replace HB := HB.y hb; replace XT := XT.x hb; have P7 : Sl (Told w12 v7 d n fw) := ⟨ht⟩; clear hb ht
  go_wp2_with ((with_reducible show wpList _ _ _ _ _ _); first
    | (refine wpList_load_whole rfl 26 (.tmp 3) rfl gT rfl 26 t.cells _ XT.out Tryz.underlying26 rfl (size_temper t) ?_))
  refine (HX.out _ (HT.out.below HB.out)).mono ?_; rintro e w13 ⟨⟨v8, rfl, ht⟩, hb⟩; replace P5 : Sl (Told w13 v5 c 12 (sorty (keyZ t.ky) ident 11)) := ⟨P5.out.below hb⟩; replace P6 : Sl (Told w13 v6 c 12 (sorty (keyZ t.ky) ident 11)) := ⟨P6.out.below hb⟩; replace P7 : Sl (Told w13 v7 d n fw) := ⟨P7.out.below hb⟩; replace HB := HB.y hb; replace XT := XT.x hb; have P8 : Sl (Told w13 v8 d n fw) := ⟨ht⟩; clear hb ht; go_wp2_with fail; refine (P5.out.ints P6.out (by decide)).mono ?_; rintro e w14 ⟨rfl, hb⟩; replace P5 : Sl (Told w14 v5 c 12 (sorty (keyZ t.ky) ident 11)) := ⟨P5.out.below hb⟩; replace P6 : Sl (Told w14 v6 c 12 (sorty (keyZ t.ky) ident 11)) := ⟨P6.out.below hb⟩; replace P7 : Sl (Told w14 v7 d n fw) := ⟨P7.out.below hb⟩; replace P8 : Sl (Told w14 v8 d n fw) := ⟨P8.out.below hb⟩; replace HB := HB.y hb; replace XT := XT.x hb; clear hb; go_wp2_with fail; refine (P7.out.ints P8.out HLN.out).mono ?_; rintro e w15 ⟨rfl, hb⟩; replace P5 : Sl (Told w15 v5 c 12 (sorty (keyZ t.ky) ident 11)) := ⟨P5.out.below hb⟩; replace P6 : Sl (Told w15 v6 c 12 (sorty (keyZ t.ky) ident 11)) := ⟨P6.out.below hb⟩; replace P7 : Sl (Told w15 v7 d n fw) := ⟨P7.out.below hb⟩; replace P8 : Sl (Told w15 v8 d n fw) := ⟨P8.out.below hb⟩; replace HB := HB.y hb; replace XT := XT.x hb; clear hb; go_wp2_with fail; refine (HAW.out _ (HT.out.below HB.out)).mono ?_; rintro e w16 ⟨rfl, hb⟩; replace P5 : Sl (Told w16 v5 c 12 (sorty (keyZ t.ky) ident 11)) := ⟨P5.out.below hb⟩; replace P6 : Sl (Told w16 v6 c 12 (sorty (keyZ t.ky) ident 11)) := ⟨P6.out.below hb⟩; replace P7 : Sl (Told w16 v7 d n fw) := ⟨P7.out.below hb⟩; replace P8 : Sl (Told w16 v8 d n fw) := ⟨P8.out.below hb⟩; replace HB := HB.y hb; replace XT := XT.x hb; clear hb; go_wp2_with fail; go_ret; exact ⟨rfl, HB.out⟩
end Go.Proofs.YtmcoadmnkelkkaaGreatDoor
