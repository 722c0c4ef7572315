/- The reference of chapter 11: Doubles. -/
import Derived.Test.YtkjkbhkcebbjdaaGreatDoorMzD
import Derived.Test.YtkjkbhkcebbjdaaGreatDoorMyV
namespace Go.Proofs.YtkjkbhkcebbjdaaGreatDoor
set_option linter.unusedSimpArgs false
open Go.RowKit
set_option linter.unusedVariables false

set_option maxHeartbeats 6400000 in
set_option maxRecDepth 100000 in
theorem rDoubles_any (a b : Int) (A : Option Addr) (n c : Nat) (L : List Bk) (w : World) (hM : MXA w A n c L) (ha : i64 a) (hb : i64 b) :
    Calls Tryz.prog 22 #[.agg #[.int .i64 a, .int .i64 b, .slice A n c]] w fun e w' => DblR (mxO a b L) e w' ∧ Below w.heap.size w w' := by
  have HU : Sl (Below w.heap.size w (w.alloc (.cells #[.int .i64 a, .int .i64 b, .slice A n c] 24))) := ⟨(Below.refl _ _).alloc (Nat.le_refl _) _⟩
  have HBK : Sl _ := ⟨Blk.new w 24 #[.int .i64 a, .int .i64 b, .slice A n c]⟩
  have HM : Sl _ := ⟨hM.below HU.out⟩
  have HCK : Sl _ := ⟨rCheck_any a b A n c L _ HM.out ha hb⟩
  clear hM ha hb
  obtain ⟨i0, hi0, hz0, hz1, hz2⟩ := infoNt
  have HI : Sl _ := ⟨And.intro hi0 (And.intro hz0 (And.intro hz1 hz2))⟩
  clear hi0 hz0 hz1 hz2
  obtain ⟨x, hx⟩ : ∃ x, mxO a b L = x := ⟨_, rfl⟩
  rw [hx] at HCK ⊢
  have HX : Sl _ := ⟨hx⟩
  clear hx
  obtain ⟨r, hr⟩ : ∃ r, x.chk = r := ⟨_, rfl⟩
  rw [hr] at HCK
  have HR : Sl _ := ⟨hr⟩
  clear hr
  go_enter Tryz.func22, Tryz.ntmps22
  go_wp2_with fail
  generalize w.alloc (.cells #[.int .i64 a, .int .i64 b, .slice A n c] 24) = w0 at *
  refine HCK.out.mono ?_; rintro e w1 ⟨rfl, hb⟩
  replace HU : Sl (Below w.heap.size w w1) := ⟨HU.out.trans (hb.mono HU.out.size)⟩
  replace HBK : Sl (Blk w1 w.heap.size _ _) := ⟨HBK.out.below hb HBK.out.lt⟩
  replace HM : Sl (MXA w1 A n c L) := ⟨HM.out.below hb⟩
  clear hb HCK
  by_cases h0 : r = 0
  · have h0b : (r != 0) = false := by rw [h0]; rfl
    have HCH : Sl (x.chk = 0) := ⟨by rw [HR.out, h0]⟩
    have HF : Sl x.Fine := ⟨Mx.fine (Mx.chk_ok HCH.out).1⟩
    have HA : Sl (x.a = a ∧ x.b = b) := ⟨by rw [← HX.out]; exact ⟨rfl, rfl⟩⟩
    have HAB : Sl (0 ≤ a ∧ b ≤ 127 ∧ a ≤ b) := ⟨by rw [← HA.out.1, ← HA.out.2]; exact ⟨HF.out.a0, HF.out.b1, HF.out.ab⟩⟩
    have HKY : Sl (x.keys = (b - a + 1).toNat) := ⟨by unfold Mx.keys; rw [HA.out.1, HA.out.2]⟩
    clear HR
    have cc0 := HBK.out.cell 0
    simp at cc0
    go_wp2_with fail
    clear cc0
    go_loopw [5, 6, 7, 8, 9] (fun s5 s6 s7 s8 s9 wr => ∃ (t : Nat) (v v7 v8 v9 : Value), t ≤ x.keys ∧ s6 = .int .i64 (a + (t : Int)) ∧ v = s5 ∧ s7 = v7 ∧ s8 = v8 ∧ s9 = v9 ∧ Sl (wr.ownsRow w1.heap.size 3 1 v (x.dbl t).length ((x.dbl t).map iv) ∧ Below w1.heap.size w1 wr)) (fun _ s6 _ _ _ _ => (b + 1 - RowKit.intOf s6).toNat)
    case atStart => exact ⟨0, _, _, _, _, Nat.zero_le _, by go_num, rfl, rfl, rfl, rfl, ⟨World.ownsRow_nil _ _ _ _, Below.refl _ _⟩⟩
    case round =>
      obtain ⟨t, v, v7, v8, v9, ht, rfl, rfl, rfl, rfl, rfl, HQ⟩ := hrel
      have HBq : Sl (Blk wr w.heap.size 24 #[.int .i64 a, .int .i64 b, .slice A n c]) := ⟨HBK.out.below HQ.out.2 HBK.out.lt⟩
      have c0 := HBq.out.cell 0
      have c1 := HBq.out.cell 1
      have c2 := HBq.out.cell 2
      simp at c0 c1 c2
      have hab := HAB.out
      have hkey := HKY.out
      by_cases htk : t < x.keys
      · have hkb : a + (t : Int) ≤ b := by omega
        obtain ⟨key, hk⟩ : ∃ key, a + (t : Int) = key := ⟨_, rfl⟩
        have hka : a ≤ key := by omega
        have hk2 : key ≤ b := by rw [← hk]; exact hkb
        have hro := rrow_any a b A n c L key wr (HM.out.below HQ.out.2) (by rw [HX.out]; exact HF.out) hka hk2
        rw [HX.out] at hro
        have hat := (HF.out.ord.at_in (key := key) (by rw [HA.out.1]; exact hka) (by rw [HA.out.2]; exact hk2)).1
        obtain ⟨l, hl⟩ : ∃ l, x.rk (x.at key x.n) = l := ⟨_, rfl⟩
        have hlen : 0 < l.length ∧ l.length ≤ 8 := by
          have h1 := HF.out.k1 _ hat
          have h2 := HF.out.k0 _ hat
          rw [hl] at h1 h2
          exact ⟨h2, h1⟩
        have hrw := mx_row_frL (x := x) (key := key) (l := l) hl rfl
        have hrl : (x.row key).length = l.length := by rw [Mx.row_len, hl]
        rw [hrw, hrl] at hro
        have HRO : Sl _ := ⟨hro⟩
        have HKE : Sl (x.key t = key) := ⟨by unfold Mx.key; rw [HA.out.1]; exact hk⟩
        have HD : Sl (x.dbl (t + 1) = if twin l then x.dbl t ++ [key] else x.dbl t) := ⟨by rw [Mx.dbl, HKE.out, hl]⟩
        have HDL : Sl ((x.dbl t).length ≤ 61) := ⟨by have := x.dbl_len t; have := HF.out.keys_pos; omega⟩
        have HKT : Sl _ := ⟨hk⟩
        obtain ⟨m, hm⟩ : ∃ m, l.length = m := ⟨_, rfl⟩
        rw [hm] at HRO hlen
        have HLM : Sl _ := ⟨hm⟩
        clear hro hrw hrl hl hat hkb hm
        rw [hk]
        clear hk
        have hkd : decide (key ≤ b) = true := decide_eq_true hk2
        clear htk hkey
        go_wp2_with fail
        refine HRO.out.mono ?_; rintro e w5 ⟨⟨vr, rfl, hown⟩, hb⟩
        obtain ⟨g, cap, rfl, hgb, hgl⟩ := hown.form hlen.1
        have HW : Sl (Below w1.heap.size w1 w5) := ⟨HQ.out.2.trans (hb.mono HQ.out.2.size)⟩
        have HOW : Sl (w5.ownsRow w1.heap.size 3 1 v (x.dbl t).length ((x.dbl t).map iv)) := ⟨own_mv HQ.out.1 (Mv.of_below hb) (fun q hq => by have := (HQ.out.1.lt q hq).2; omega)⟩
        have HRW : Sl _ := ⟨hown⟩
        clear hown hb hgb hgl c0 c1 c2 HRO HQ HBq
        go_wp2_with fail
        go_loopw [8, 9] (fun s8 s9 wq => ∃ (i : Nat) (tw : Bool), 1 ≤ i ∧ i ≤ m ∧ s9 = .int .i64 i ∧ s8 = .bool tw ∧ Sl ((tw = anyN (i - 1) fun j => decide (gt l (j + 1) = gt l j)) ∧ ∃ q, wq = w5.drewN q)) (fun _ s9 _ => m - (RowKit.intOf s9).toNat)
        case atStart => exact ⟨1, false, Nat.le_refl _, hlen.1, rfl, rfl, ⟨rfl, 0, rfl⟩⟩
        case round =>
          obtain ⟨i, tw, hi1, him, rfl, rfl, HJ⟩ := hrel
          have hm8 := hlen.2
          by_cases hil : i < m
          · obtain ⟨j, hj⟩ : ∃ j, i = j + 1 := ⟨i - 1, by omega⟩
            have hij : (i : Int) - 1 = (j : Int) := by omega
            have hjm : (j : Int) < (m : Int) := by omega
            have hjm2 : j < m := by omega
            have hj8 : j ≤ 8 := by omega
            have hiI : (i : Int) < (m : Int) := by omega
            have HRQ : Sl (wr.ownsRow wr.heap.size 3 1 (.slice none 0 0) 0 []) := ⟨World.ownsRow_nil _ _ _ _⟩
            have y0 : wr.cell? ⟨g, i, none⟩ = some (iv (key + gt l i)) := by
              obtain ⟨q, hq⟩ := HJ.out.2
              rw [hq]
              have := HRW.out.cellAt i (by omega)
              rw [frL_at hil] at this
              exact this
            have y1 : wr.cell? ⟨g, j, none⟩ = some (iv (key + gt l j)) := by
              obtain ⟨q, hq⟩ := HJ.out.2
              rw [hq]
              have := HRW.out.cellAt j (by omega)
              rw [frL_at hjm2] at this
              exact this
            unfold iv at y0 y1
            have HTS : Sl (anyN (i + 1 - 1) (fun j => decide (gt l (j + 1) = gt l j)) = (tw || decide (gt l i = gt l j))) := ⟨by
              rw [show i + 1 - 1 = j + 1 by omega, anyN, HJ.out.1, show i - 1 = j by omega, hj]⟩
            have HZ : Sl (∀ z, ∃ q, wr.drewN z = w5.drewN q) := ⟨fun z => by obtain ⟨q, hq⟩ := HJ.out.2; exact ⟨q + z, by rw [hq, drew2]⟩⟩
            obtain ⟨z0, hz0⟩ : ∃ z, gt l i = z := ⟨_, rfl⟩
            obtain ⟨z1, hz1⟩ : ∃ z, gt l j = z := ⟨_, rfl⟩
            rw [hz0] at y0 HTS
            rw [hz1] at y1 HTS
            clear hj hz0 hz1 HRQ
            cases tw
            · by_cases hz : z0 = z1
              · have hzb : (key + z0 == key + z1) = true := by rw [hz]; exact beq_self_eq_true _
                have HT2 : Sl (true = anyN (i + 1 - 1) fun j => decide (gt l (j + 1) = gt l j)) := ⟨by rw [HTS.out, decide_eq_true hz]; rfl⟩
                rw [hz] at y0 hzb
                clear hz
                go_wp2_with fail
                go_quiet (fail)
                go_wp2_with fail
                exact ⟨⟨i + 1, true, by omega, hil, by go_num, rfl, ⟨HT2.out, HZ.out _⟩⟩, by simp [RowKit.intOf]; omega⟩
              · have hzb : (key + z0 == key + z1) = false := by rw [beq_eq_false_iff_ne]; omega
                have HT2 : Sl (false = anyN (i + 1 - 1) fun j => decide (gt l (j + 1) = gt l j)) := ⟨by rw [HTS.out, decide_eq_false hz]; rfl⟩
                obtain ⟨p0, hp0⟩ : ∃ p, key + z0 = p := ⟨_, rfl⟩
                obtain ⟨p1, hp1⟩ : ∃ p, key + z1 = p := ⟨_, rfl⟩
                rw [hp0] at y0 hzb
                rw [hp1] at y1 hzb
                clear hz hp0 hp1
                go_wp2_with fail
                go_quiet (fail)
                go_wp2_with fail
                exact ⟨⟨i + 1, false, by omega, hil, by go_num, rfl, ⟨HT2.out, HZ.out _⟩⟩, by simp [RowKit.intOf]; omega⟩
            · have HT2 : Sl (true = anyN (i + 1 - 1) fun j => decide (gt l (j + 1) = gt l j)) := ⟨by rw [HTS.out]; rfl⟩
              go_wp2_with fail
              go_quiet (fail)
              go_wp2_with fail
              exact ⟨⟨i + 1, true, by omega, hil, by go_num, rfl, ⟨HT2.out, HZ.out _⟩⟩, by simp [RowKit.intOf]; omega⟩
          · obtain rfl : i = m := by omega
            have HTW : Sl (tw = twin l) := ⟨by rw [HJ.out.1]; unfold twin; rw [HLM.out]⟩
            have HW2 : Sl (Below w1.heap.size w1 wr) := ⟨by obtain ⟨q, hq⟩ := HJ.out.2; rw [hq]; exact below_drewN HW.out q⟩
            have HO2 : Sl (wr.ownsRow w1.heap.size 3 1 v (x.dbl t).length ((x.dbl t).map iv)) := ⟨by obtain ⟨q, hq⟩ := HJ.out.2; rw [hq]; exact HOW.out⟩
            clear HJ HW HOW HRW hm8
            have hkr : 0 ≤ key ∧ key ≤ 127 := by omega
            cases tw
            · have HDD : Sl (x.dbl (t + 1) = x.dbl t) := ⟨by rw [HD.out, ← HTW.out]; rfl⟩
              go_wp2_with fail
              exact ⟨⟨t + 1, v, _, _, _, by have := HKT.out; have := HKY.out; omega, by have := HKT.out; congr 1; omega, rfl, rfl, rfl, rfl, ⟨by rw [HDD.out]; exact HO2.out, HW2.out⟩⟩, by have := HKT.out; simp [RowKit.intOf]; omega⟩
            · have HDD : Sl (x.dbl (t + 1) = x.dbl t ++ [key]) := ⟨by rw [HD.out, ← HTW.out]; rfl⟩
              obtain ⟨nd, hnd⟩ : ∃ nd, (x.dbl t).length = nd := ⟨_, rfl⟩
              rw [hnd] at HO2 HDL
              have hnd61 := HDL.out
              have HND : Sl _ := ⟨hnd⟩
              clear hnd
              go_wp2_with (at_builtin; (refine wpList_append_any _ rfl (.tmp 46) (.tmp 48) _ rfl w1.heap.size 3 i0 _ 1 8 Tryz.underlying25 HI.out.1 HI.out.2.1 HI.out.2.2.1 HI.out.2.2.2 rfl (by decide) v nd _ rfl (xown_alloc HO2.out _) _ (some ⟨wr.heap.size, 0, none⟩) 1 1 [.int .i64 key] rfl (xreads1 _ _ _) (by intro u hu; simp at hu; subst hu; rfl) (by unfold maxLen; omega) (by omega) (by have := HW2.out.size; simp; omega) ?_; rintro v6 w6 hown hg hat; have XQ : Sl (w6.ownsRow w1.heap.size 3 1 v6 (x.dbl (t + 1)).length ((x.dbl (t + 1)).map iv)) := ⟨by rw [HDD.out, List.map_append, List.length_append, HND.out]; exact hown⟩; have HLN : Sl (Below w1.heap.size w1 w6) := ⟨xbelow_grown HW2.out HW2.out.size HO2.out hg⟩; clear hown hg hat))
              exact ⟨⟨t + 1, v6, _, _, _, by have := HKT.out; have := HKY.out; omega, by have := HKT.out; congr 1; omega, rfl, rfl, rfl, rfl, ⟨XQ.out, HLN.out⟩⟩, by have := HKT.out; simp [RowKit.intOf]; omega⟩
      · have hte : t = x.keys := by omega
        have hkb : ¬ a + (t : Int) ≤ b := by omega
        have hkd : decide (a + (t : Int) ≤ b) = false := decide_eq_false hkb
        have HTE : Sl _ := ⟨hte⟩
        clear hte hkey htk ht
        obtain ⟨A2, c2, rfl, hii⟩ := own_slice HQ.out.1 rfl
        have HII : Sl _ := ⟨hii⟩
        clear hii
        go_wp2_with fail
        go_ret2
        have e : x.dbls = x.dbl t := by unfold Mx.dbls; rw [if_pos HCH.out, HTE.out]
        exact ⟨⟨A2, c2, by rw [e, HCH.out]; rfl, by rw [e]; exact HII.out⟩, HU.out.trans (HQ.out.2.mono HU.out.size)⟩
  · have h0b : (r != 0) = true := by simpa using h0
    have H0 : Sl _ := ⟨h0⟩
    go_wp2_with fail
    go_ret2
    exact ⟨DblR.bad HR.out H0.out, HU.out⟩
end Go.Proofs.YtkjkbhkcebbjdaaGreatDoor
