/- The reference of chapter 11: Counts. -/
import Derived.Test.YtkjkbhkcebbjdaaGreatDoorMzF
import Derived.Test.YtkjkbhkcebbjdaaGreatDoorMyV
namespace Go.Proofs.YtkjkbhkcebbjdaaGreatDoor
set_option linter.unusedSimpArgs false
open Go.RowKit
set_option linter.unusedVariables false

theorem oblk_ne {g g' n c k : Nat} (hk : (Value.slice (some ⟨g, 0, none⟩) n c).ownBlock = some k) (h : g ≠ g') : k ≠ g' := by
  have e : g = k := by simpa [Value.ownBlock] using hk
  rw [← e]; exact h
theorem size_intG : (Tryz.prog.info? 3).map (·.size) = some 1 := by kernel_rfl
theorem made_frL (n : Nat) : (madeCells (Value.int .i64 0).cells (n * 1)).toList = frL n (fun _ => 0) := by
  refine List.ext_getElem? fun j => ?_
  rw [Nat.mul_one]
  by_cases hj : j < n
  · rw [frL_at hj]
    unfold madeCells
    simp [hj, Value.cells, iv, Nat.mod_one]
  · rw [List.getElem?_eq_none (l := frL n fun _ => 0) (by rw [frL_len]; omega)]
    unfold madeCells
    simp; omega
set_option maxHeartbeats 6400000 in
set_option maxRecDepth 100000 in
theorem rCounts_any (a b : Int) (A : Option Addr) (n c : Nat) (L : List Bk) (w : World) (hM : MXA w A n c L) (ha : i64 a) (hb : i64 b) :
    Calls Tryz.prog 20 #[.agg #[.int .i64 a, .int .i64 b, .slice A n c]] w fun e w' => CntR (mxO a b L) e w' ∧ Below w.heap.size w w' := by
  have HU : Sl (Below w.heap.size w (w.alloc (.cells #[.int .i64 a, .int .i64 b, .slice A n c] 24))) := ⟨(Below.refl _ _).alloc (Nat.le_refl _) _⟩
  have HBK : Sl _ := ⟨Blk.new w 24 #[.int .i64 a, .int .i64 b, .slice A n c]⟩
  have HM : Sl _ := ⟨hM.below HU.out⟩
  have HCK : Sl _ := ⟨rCheck_any a b A n c L _ HM.out ha hb⟩
  clear hM ha hb
  obtain ⟨i0, hi0, hz0, hz1, hz2⟩ := infoNt
  have HI : Sl _ := ⟨And.intro hi0 (And.intro hz0 (And.intro hz1 hz2))⟩
  clear hi0 hz0 hz1 hz2
  obtain ⟨i2, z2, hi0, hz0, hz1, hz2, hz3⟩ := infoCnt
  have HJ : Sl _ := ⟨And.intro hi0 (And.intro hz0 (And.intro hz1 (And.intro hz2 hz3)))⟩
  clear hi0 hz0 hz1 hz2 hz3
  obtain ⟨x, hx⟩ : ∃ x, mxO a b L = x := ⟨_, rfl⟩
  rw [hx] at HCK ⊢
  have HX : Sl _ := ⟨hx⟩
  clear hx
  obtain ⟨r, hr⟩ : ∃ r, x.chk = r := ⟨_, rfl⟩
  rw [hr] at HCK
  have HR : Sl _ := ⟨hr⟩
  clear hr
  go_enter Tryz.func20, Tryz.ntmps20
  go_wp2_with fail
  generalize w.alloc (.cells #[.int .i64 a, .int .i64 b, .slice A n c] 24) = w0 at *
  refine HCK.out.mono ?_; rintro e w1 ⟨rfl, hb⟩
  replace HU : Sl (Below w.heap.size w w1) := ⟨HU.out.trans (hb.mono HU.out.size)⟩
  replace HBK : Sl (Blk w1 w.heap.size _ _) := ⟨HBK.out.below hb HBK.out.lt⟩
  replace HM : Sl (MXA w1 A n c L) := ⟨HM.out.below hb⟩
  clear hb HCK
  by_cases h0 : r = 0
  · have h0b : (r != 0) = false := by rw [h0]; rfl
    have HCH : Sl (x.chk = 0) := ⟨by rw [HR.out, h0]⟩
    have HF : Sl x.Fine := ⟨Mx.fine (Mx.chk_ok HCH.out).1⟩
    have HS : Sl (x.snd = false) := ⟨(Mx.chk_ok HCH.out).2⟩
    have HA : Sl (x.a = a ∧ x.b = b) := ⟨by rw [← HX.out]; exact ⟨rfl, rfl⟩⟩
    have HAB : Sl (0 ≤ a ∧ b ≤ 127 ∧ a ≤ b) := ⟨by rw [← HA.out.1, ← HA.out.2]; exact ⟨HF.out.a0, HF.out.b1, HF.out.ab⟩⟩
    have HKY : Sl (x.keys = (b - a + 1).toNat) := ⟨by unfold Mx.keys; rw [HA.out.1, HA.out.2]⟩
    clear HR
    have cc0 := HBK.out.cell 0
    simp at cc0
    go_wp2_with ((with_reducible show wpList _ _ _ _ _ _); first
      | (refine wpList_make_full _ rfl (.const (.int .i64 140)) (.const (.int .i64 140)) 25 rfl w1.heap.size 3 i0 _ 1 Tryz.underlying25 HI.out.1 HI.out.2.1 HI.out.2.2.1 .i64 .i64 140 140 140 rfl rfl rfl rfl (by rw [HI.out.2.2.2]; decide) (by decide) (Nat.le_refl _) ?_; intro w2 hown hg; have HO : Sl (w2.ownsRow w1.heap.size 3 1 (.slice (some ⟨w1.heap.size, 0, none⟩) 140 140) 140 (frL 140 (fun _ => 0))) := ⟨by rw [← made_frL]; exact hown⟩; have HB2 : Sl (Below w1.heap.size w1 w2) := ⟨⟨hg.os, hg.tape, hg.output, hg.size, fun k hk => hg.block k hk (by simp)⟩⟩; clear hown hg cc0; have cc0 := (HBK.out.below HB2.out HBK.out.lt).cell 0; simp at cc0))
    clear cc0
    obtain ⟨g, hg⟩ : ∃ g, w1.heap.size = g := ⟨_, rfl⟩
    have HGE : Sl _ := ⟨hg⟩
    have HO0 := HO.out
    rw [hg] at HO0
    replace HO : Sl _ := ⟨HO0⟩
    clear HO0
    rw [hg]
    clear hg
    have HO1 : Sl (w2.ownsRow g 3 1 (.slice (some ⟨g, 0, none⟩) 140 140) 140 (frL 140 (fun j => (x.cnt (j : Int) 0 : Nat)))) := ⟨HO.out⟩
    clear HO
    go_loopw [6, 7, 8] (fun s6 s7 s8 wr => ∃ (t : Nat) (v7 v8 : Value), t ≤ x.keys ∧ s6 = .int .i64 (a + (t : Int)) ∧ s7 = v7 ∧ s8 = v8 ∧ Sl (wr.ownsRow g 3 1 (.slice (some ⟨g, 0, none⟩) 140 140) 140 (frL 140 (fun j => (x.cnt (j : Int) t : Nat))) ∧ Below w1.heap.size w1 wr)) (fun s6 _ _ _ => (b + 1 - RowKit.intOf s6).toNat)
    case atStart => exact ⟨0, _, _, Nat.zero_le _, by go_num, rfl, rfl, ⟨HO1.out, HB2.out⟩⟩
    case round =>
      clear HO1
      obtain ⟨t, v7, v8, ht, rfl, rfl, rfl, HQ⟩ := hrel
      have HBq : Sl (Blk wr w.heap.size 24 #[.int .i64 a, .int .i64 b, .slice A n c]) := ⟨HBK.out.below HQ.out.2 HBK.out.lt⟩
      have c0 := HBq.out.cell 0
      have c1 := HBq.out.cell 1
      have c2 := HBq.out.cell 2
      simp at c0 c1 c2
      have hab := HAB.out
      have hkey := HKY.out
      by_cases htk : t < x.keys
      · have hkb : a + (t : Int) ≤ b := by omega
        obtain ⟨key, hk⟩ : ∃ key, a + (t : Int) = key := ⟨_, rfl⟩
        have hka : a ≤ key := by omega
        have hk2 : key ≤ b := by rw [← hk]; exact hkb
        have hro := rrow_any a b A n c L key wr (HM.out.below HQ.out.2) (by rw [HX.out]; exact HF.out) hka hk2
        rw [HX.out] at hro
        have hat := (HF.out.ord.at_in (key := key) (by rw [HA.out.1]; exact hka) (by rw [HA.out.2]; exact hk2)).1
        obtain ⟨l, hl⟩ : ∃ l, x.rk (x.at key x.n) = l := ⟨_, rfl⟩
        have hlen : 0 < l.length ∧ l.length ≤ 8 := by
          have h1 := HF.out.k1 _ hat
          have h2 := HF.out.k0 _ hat
          rw [hl] at h1 h2
          exact ⟨h2, h1⟩
        have hrw := mx_row_frL (x := x) (key := key) (l := l) hl rfl
        have hrl : (x.row key).length = l.length := by rw [Mx.row_len, hl]
        rw [hrw, hrl] at hro
        have HRO : Sl _ := ⟨hro⟩
        have HKE : Sl (x.key t = key) := ⟨by unfold Mx.key; rw [HA.out.1]; exact hk⟩
        have HKT : Sl _ := ⟨hk⟩
        obtain ⟨m, hm⟩ : ∃ m, l.length = m := ⟨_, rfl⟩
        rw [hm] at HRO hlen
        have HCS : Sl (∀ v, x.cnt v (t + 1) = x.cnt v t + cntR (fun j => key + gt l j) v m) := ⟨fun v => by rw [Mx.cnt, HKE.out, row_cntR hl hm]⟩
        have HRB : Sl (∀ i, i < m → 0 ≤ key + gt l i ∧ key + gt l i ≤ 139) := ⟨fun i hi => by
          have := HF.out.row_bd HS.out (key := key) (by rw [HA.out.1]; exact hka) (by rw [HA.out.2]; exact hk2) (j := i) (by rw [hl, hm]; exact hi)
          rw [hl] at this; omega⟩
        have HCL : Sl (∀ v, x.cnt v t ≤ 488) := ⟨fun v => by have := HF.out.cnt_le v t ht; have := HF.out.keys_pos; omega⟩
        clear hro hrw hrl hl hat hkb hm
        rw [hk]
        clear hk
        have hkd : decide (key ≤ b) = true := decide_eq_true hk2
        clear htk hkey
        go_wp2_with fail
        refine HRO.out.mono ?_; rintro e w5 ⟨⟨vr, rfl, hown⟩, hb⟩
        obtain ⟨gr, cap, rfl, hgb, hgl⟩ := hown.form hlen.1
        have HW : Sl (Below w1.heap.size w1 w5) := ⟨HQ.out.2.trans (hb.mono HQ.out.2.size)⟩
        have hgw : g < wr.heap.size := by
          rcases HQ.out.1.2 with ⟨h1, _⟩ | ⟨g', c', cur, e1, _, hh, _⟩
          · cases h1
          · injection e1 with e1; injection e1 with e1; injection e1 with e1; subst e1
            exact (Array.getElem?_eq_some_iff.1 hh).1
        have HOW : Sl (w5.ownsRow g 3 1 (.slice (some ⟨g, 0, none⟩) 140 140) 140 (frL 140 (fun j => (x.cnt (j : Int) t : Nat)))) := ⟨own_mv HQ.out.1 (Mv.of_below hb) (fun q hq => by
          have e : g = q := by simpa [Value.ownBlock] using hq
          omega)⟩
        have HRW : Sl _ := ⟨hown⟩
        have HNE : Sl (gr ≠ g) := ⟨by omega⟩
        clear hown hb hgb hgl c0 c1 c2 HRO HQ HBq hgw
        go_wp2_with fail
        have HO6 : Sl (w5.ownsRow g 3 1 (.slice (some ⟨g, 0, none⟩) 140 140) 140 (frL 140 (fun j => (x.cnt (j : Int) t + cntR (fun q => key + gt l q) (j : Int) 0 : Nat)))) := HOW
        generalize wr.heap.size = BR at *
        go_loopw [8] (fun s8 wq => ∃ (i : Nat), i ≤ m ∧ s8 = .int .i64 i ∧ Sl (wq.ownsRow g 3 1 (.slice (some ⟨g, 0, none⟩) 140 140) 140 (frL 140 (fun j => (x.cnt (j : Int) t + cntR (fun q => key + gt l q) (j : Int) i : Nat))) ∧ wq.ownsRow BR 3 1 (.slice (some ⟨gr, 0, none⟩) m cap) m (frL m fun j => key + gt l j) ∧ Below w1.heap.size w1 wq)) (fun s8 _ => m - (RowKit.intOf s8).toNat)
        case atStart => exact ⟨0, Nat.zero_le _, rfl, ⟨HO6.out, HRW.out, HW.out⟩⟩
        case round =>
          clear HO6 HOW HRW HW
          obtain ⟨i, him, rfl, HJ⟩ := hrel
          have hm8 := hlen.2
          by_cases hil : i < m
          · have hiI : (i : Int) < (m : Int) := by omega
            have hrb := HRB.out i hil
            obtain ⟨p, hp⟩ := Int.eq_ofNat_of_zero_le hrb.1
            have hp140 : p < 140 := by omega
            have hpI : (p : Int) < 140 := by omega
            have y0 := HJ.out.2.1.cellAt i (by omega)
            rw [frL_at hil, hp] at y0
            have y1 := HJ.out.1.cellAt p (by omega)
            rw [frL_at hp140] at y1
            unfold iv at y0 y1
            have hfl : x.cnt (p : Int) t + cntR (fun q => key + gt l q) (p : Int) i ≤ 500 := by have := HCL.out (p : Int); have := cntR_le (fun q => key + gt l q) (p : Int) i; omega
            obtain ⟨fu, hfe⟩ : ∃ fu, x.cnt (p : Int) t + cntR (fun q => key + gt l q) (p : Int) i = fu := ⟨_, rfl⟩
            rw [hfe] at y1 hfl
            have HFE : Sl _ := ⟨And.intro hfe hp⟩
            clear hfe hp hrb
            have ho := HJ.out.1
            have hr := HJ.out.2.1
            have hbw := HJ.out.2.2
            go_wp2_with ((with_reducible show wpList _ _ _ _ _ _); first
              | (refine wpList_store_own rfl 3 (.tmp 42) (.tmp 41) rfl g p (.int .i64 ((fu : Int) + 1)) rfl rfl g 3 1 140 140 _ ho (by omega) size_intG rfl rfl ?_; rintro w7 hm7 hsz hown; have HO7 : Sl _ := ⟨hown⟩; have HR7 : Sl (w7.ownsRow BR 3 1 (.slice (some ⟨gr, 0, none⟩) m cap) m (frL m fun j => key + gt l j)) := ⟨own_mv hr hm7 (fun q hq => oblk_ne hq HNE.out)⟩; have HB7 : Sl (Below w1.heap.size w1 w7) := ⟨below_mv hbw hm7 (by rw [HGE.out]; exact Nat.le_refl _) hbw.size⟩; clear hm7 hsz hown))
            refine ⟨⟨i + 1, hil, by go_num, ⟨?_, HR7.out, HB7.out⟩⟩, by simp [RowKit.intOf]; omega⟩
            have h7 := HO7.out
            have e7 : (frL 140 (fun j => (x.cnt (j : Int) t + cntR (fun q => key + gt l q) (j : Int) i : Nat))).set p (.int .i64 ((fu : Int) + 1)) = frL 140 (fun j => (x.cnt (j : Int) t + cntR (fun q => key + gt l q) (j : Int) (i + 1) : Nat)) := by
              have := frL_set 140 (fun j => ((x.cnt (j : Int) t + cntR (fun q => key + gt l q) (j : Int) i : Nat) : Int)) p ((fu : Int) + 1)
              unfold iv at this
              rw [this]
              refine frL_congr fun j hj => ?_
              show (if j = p then (fu : Int) + 1 else _) = ((x.cnt (j : Int) t + (cntR (fun q => key + gt l q) (j : Int) i + if key + gt l i = (j : Int) then 1 else 0) : Nat) : Int)
              by_cases h : j = p
              · subst h
                rw [if_pos rfl, if_pos HFE.out.2, ← Nat.add_assoc, HFE.out.1]
                rfl
              · rw [if_neg h, if_neg (fun e => h (by rw [HFE.out.2] at e; omega))]
                rfl
            rw [e7] at h7
            exact h7
          · obtain rfl : i = m := by omega
            have HON : Sl (wr.ownsRow g 3 1 (.slice (some ⟨g, 0, none⟩) 140 140) 140 (frL 140 (fun j => (x.cnt (j : Int) (t + 1) : Nat)))) := ⟨by
              rw [frL_congr (g := fun j => ((x.cnt (j : Int) t + cntR (fun q => key + gt l q) (j : Int) i : Nat) : Int)) (fun j _ => by rw [HCS.out])]
              exact HJ.out.1⟩
            have hkr : 0 ≤ key ∧ key ≤ 127 := by omega
            go_wp2_with fail
            exact ⟨⟨t + 1, _, _, by have := HKT.out; have := HKY.out; omega, by have := HKT.out; congr 1; omega, rfl, rfl, ⟨HON.out, HJ.out.2.2⟩⟩, by have := HKT.out; simp [RowKit.intOf]; omega⟩
      · have hte : t = x.keys := by omega
        have hkb : ¬ a + (t : Int) ≤ b := by omega
        have hkd : decide (a + (t : Int) ≤ b) = false := decide_eq_false hkb
        have hq1 := HQ.out.1
        rw [hte] at hq1
        have HQ1 : Sl _ := ⟨hq1⟩
        have HQ2 : Sl _ := ⟨HQ.out.2⟩
        clear hte hkey htk ht hq1 HQ
        go_wp2_with fail
        clear c0 c1 c2 hkb hkd
        generalize wr = w4 at *
        go_loopw [9, 10] (fun s9 s10 wr => ∃ (k : Nat) (v : Value), k ≤ 140 ∧ s10 = .int .i64 k ∧ v = s9 ∧ Sl (wr.ownsRow w4.heap.size 47 2 v (x.counts k).length ((x.counts k).flatMap cC) ∧ Below w4.heap.size w4 wr)) (fun _ s10 _ => 140 - (RowKit.intOf s10).toNat)
        case atStart => exact ⟨0, _, by decide, rfl, rfl, ⟨World.ownsRow_nil _ _ _ _, Below.refl _ _⟩⟩
        case round =>
          obtain ⟨k, v, hk, rfl, rfl, HK⟩ := hrel
          by_cases hk140 : k < 140
          · have hkI : (k : Int) < 140 := by omega
            have hg4 : g < w4.heap.size := by
              rcases HQ1.out.2 with ⟨h1, _⟩ | ⟨g', c', cur, e1, _, hh, _⟩
              · cases h1
              · injection e1 with e1; injection e1 with e1; injection e1 with e1; subst e1
                exact (Array.getElem?_eq_some_iff.1 hh).1
            have y1 : wr.cell? ⟨g, k, none⟩ = some (iv (x.cnt (k : Int) x.keys : Nat)) := by
              have h := HQ1.out.cellAt k (by omega)
              rw [frL_at hk140] at h
              exact (HK.out.2.cell (p := ⟨g, k, none⟩) hg4).trans h
            unfold iv at y1
            have hfu : x.cnt (k : Int) x.keys ≤ 500 := by have := HF.out.cnt_le (k : Int) x.keys (Nat.le_refl _); have := HF.out.keys_pos; omega
            obtain ⟨fu, hfe⟩ : ∃ fu, x.cnt (k : Int) x.keys = fu := ⟨_, rfl⟩
            rw [hfe] at hfu y1
            have hcl := x.counts_len k
            have HCS : Sl (x.counts (k + 1) = if 0 < fu then x.counts k ++ [(k, fu)] else x.counts k) := ⟨by rw [Mx.counts, hfe]⟩
            clear hfe hg4
            obtain ⟨nd, hnd⟩ : ∃ nd, (x.counts k).length = nd := ⟨_, rfl⟩
            rw [hnd] at hcl
            have hko := HK.out.1
            rw [hnd] at hko
            have HKO : Sl _ := ⟨hko⟩
            have HND : Sl _ := ⟨hnd⟩
            clear hko hnd
            by_cases hf0 : 0 < fu
            · have hfI : (0 : Int) < (fu : Int) := by omega
              have hfd : decide ((0 : Int) < (fu : Int)) = true := decide_eq_true hfI
              have HCT : Sl (x.counts (k + 1) = x.counts k ++ [(k, fu)]) := ⟨by rw [HCS.out, if_pos hf0]⟩
              go_wp2_with (at_builtin; (refine wpList_append_any _ rfl (.tmp 54) (.tmp 61) _ rfl w4.heap.size 47 i2 z2 2 16 Tryz.underlying40 HJ.out.1 HJ.out.2.1 HJ.out.2.2.1 HJ.out.2.2.2.1 HJ.out.2.2.2.2 (by decide) v nd _ rfl (xown_alloc HKO.out _) _ (some ⟨wr.heap.size, 0, none⟩) 1 1 [.int .i64 (k : Int), .int .i64 (fu : Int)] rfl (xreadsN wr _ [.int .i64 (k : Int), .int .i64 (fu : Int)] 2 rfl) (by intro u hu; simp at hu; rcases hu with rfl | rfl <;> rfl) (by unfold maxLen; omega) (by omega) (by have := HK.out.2.size; simp; omega) ?_; rintro v6 w6 hown hg hat; have XQ : Sl (w6.ownsRow w4.heap.size 47 2 v6 (x.counts (k + 1)).length ((x.counts (k + 1)).flatMap cC)) := ⟨by rw [HCT.out, List.flatMap_append, List.length_append, HND.out]; exact hown⟩; have HLN : Sl (Below w4.heap.size w4 w6) := ⟨xbelow_grown HK.out.2 HK.out.2.size HKO.out hg⟩; clear hown hg hat))
              exact ⟨⟨k + 1, v6, hk140, by go_num, rfl, ⟨XQ.out, HLN.out⟩⟩, by simp [RowKit.intOf]; omega⟩
            · have hfI : ¬ (0 : Int) < (fu : Int) := by omega
              have hfd : decide ((0 : Int) < (fu : Int)) = false := decide_eq_false hfI
              have HCT : Sl (x.counts (k + 1) = x.counts k) := ⟨by rw [HCS.out, if_neg hf0]⟩
              go_wp2_with fail
              exact ⟨⟨k + 1, v, hk140, by go_num, rfl, ⟨by rw [HCT.out]; exact HK.out.1, HK.out.2⟩⟩, by simp [RowKit.intOf]; omega⟩
          · obtain rfl : k = 140 := by omega
            obtain ⟨A2, c2, rfl, hrd⟩ := own_slice2 HK.out.1
            have HRD : Sl _ := ⟨hrd⟩
            clear hrd
            go_wp2_with fail
            go_ret2
            have e : x.cnts = x.counts 140 := by unfold Mx.cnts; rw [if_pos HCH.out]
            have hz := HU.out.trans (HQ2.out.mono HU.out.size)
            exact ⟨⟨A2, c2, by rw [e, HCH.out]; rfl, by rw [e]; exact HRD.out⟩, hz.trans (HK.out.2.mono hz.size)⟩
  · have h0b : (r != 0) = true := by simpa using h0
    have H0 : Sl _ := ⟨h0⟩
    go_wp2_with fail
    go_ret2
    exact ⟨CntR.bad HR.out H0.out, HU.out⟩
end Go.Proofs.YtkjkbhkcebbjdaaGreatDoor
