/- The reference of chapter 11: Row; the law's sameInts. -/
import Derived.Test.YtkjkbhkcebbjdaaGreatDoorMyV
namespace Go.Proofs.YtkjkbhkcebbjdaaGreatDoor
set_option linter.unusedSimpArgs false
open Go.RowKit
set_option linter.unusedVariables false

set_option maxHeartbeats 3200000 in
set_option maxRecDepth 100000 in
theorem rRow_any (a b : Int) (A : Option Addr) (n c : Nat) (L : List Bk) (key : Int) (w : World) (hM : MXA w A n c L) (ha : i64 a) (hb : i64 b) :
    Calls Tryz.prog 9 #[.agg #[.int .i64 a, .int .i64 b, .slice A n c], .int .i64 key] w fun e w' => RowR (mxO a b L) key e w' ∧ Below w.heap.size w w' := by
  have HU : Sl (Below w.heap.size w (w.alloc (.cells #[.int .i64 a, .int .i64 b, .slice A n c] 24))) := ⟨(Below.refl _ _).alloc (Nat.le_refl _) _⟩
  have HBK : Sl _ := ⟨Blk.new w 24 #[.int .i64 a, .int .i64 b, .slice A n c]⟩
  have HM : Sl _ := ⟨hM.below HU.out⟩
  have HCK : Sl _ := ⟨rCheck_any a b A n c L _ HM.out ha hb⟩
  clear hM ha hb
  obtain ⟨r, hr⟩ : ∃ r, (mxO a b L).chk = r := ⟨_, rfl⟩
  rw [hr] at HCK
  have HR : Sl _ := ⟨hr⟩
  clear hr
  obtain ⟨x, hx⟩ : ∃ x, mxO a b L = x := ⟨_, rfl⟩
  rw [hx]
  have HX : Sl _ := ⟨hx⟩
  clear hx
  go_enter Tryz.func9, Tryz.ntmps9
  go_wp2_with fail
  generalize w.alloc (.cells #[.int .i64 a, .int .i64 b, .slice A n c] 24) = w0 at *
  refine HCK.out.mono ?_; rintro e w1 ⟨rfl, hb⟩
  replace HU : Sl (Below w.heap.size w w1) := ⟨HU.out.trans (hb.mono HU.out.size)⟩
  replace HBK : Sl (Blk w1 w.heap.size _ _) := ⟨HBK.out.below hb HBK.out.lt⟩
  replace HM : Sl (MXA w1 A n c L) := ⟨HM.out.below hb⟩
  clear hb HCK
  by_cases h0 : r = 0
  · have h0b : (r != 0) = false := by rw [h0]; rfl
    have HCH : Sl ((mxO a b L).chk = 0) := ⟨by rw [HR.out, h0]⟩
    have HF : Sl (mxO a b L).Fine := ⟨Mx.fine (Mx.chk_ok HCH.out).1⟩
    have c0 := HBK.out.cell 0
    have c1 := HBK.out.cell 1
    have c2 := HBK.out.cell 2
    simp at c0 c1 c2
    clear HR
    by_cases hka : key < a
    · have hkd : decide (key < a) = true := decide_eq_true hka
      have HE : Sl (x.rerr key = 7) := ⟨by rw [← HX.out]; exact Mx.rerr_b HCH.out (.inl hka)⟩
      go_wp2_with fail
      go_ret2
      exact ⟨RowR.bad HE.out (by decide), HU.out⟩
    · have hkd : decide (key < a) = false := decide_eq_false hka
      by_cases hkb : b < key
      · have hkd2 : decide (b < key) = true := decide_eq_true hkb
        have HE : Sl (x.rerr key = 7) := ⟨by rw [← HX.out]; exact Mx.rerr_b HCH.out (.inr hkb)⟩
        go_wp2_with fail
        go_ret2
        exact ⟨RowR.bad HE.out (by decide), HU.out⟩
      · have hkd2 : decide (b < key) = false := decide_eq_false hkb
        have HE : Sl (x.rerr key = 0) := ⟨by rw [← HX.out]; exact Mx.rerr_c HCH.out (fun h => by rcases h with h | h; exact hka h; exact hkb h)⟩
        have HRO : Sl _ := ⟨rrow_any a b A n c L key w1 HM.out HF.out (by omega) (by omega)⟩
        have HRS : Sl (x.rows key = (mxO a b L).row key) := ⟨by unfold Mx.rows; rw [if_pos HE.out, HX.out]⟩
        rw [← HRS.out] at HRO
        go_wp2_with fail
        refine HRO.out.mono ?_; rintro e w2 ⟨⟨v, rfl, hown⟩, hb⟩
        obtain ⟨A', c', rfl⟩ : ∃ A' c', v = .slice A' (x.rows key).length c' := by
          rcases Nat.eq_zero_or_pos (x.rows key).length with h | h
          · rcases hown.2 with ⟨h1, h2⟩ | ⟨g, cap, cur, h1, _⟩
            · exact ⟨none, 0, by rw [h1, h2]⟩
            · exact ⟨_, _, h1⟩
          · obtain ⟨g, cap, h1, _⟩ := hown.form h
            exact ⟨_, _, h1⟩
        have HII : Sl (II w2 A' (x.rows key).length (x.rows key)) := ⟨rfl, Reads.of_own hown⟩
        have HW : Sl (Below w.heap.size w w2) := ⟨HU.out.trans (hb.mono HU.out.size)⟩
        clear hown hb HRO HRS c0 c1 c2
        go_wp2_with fail
        go_ret2
        exact ⟨⟨A', c', by rw [HE.out]; rfl, HII.out⟩, HW.out⟩
  · have h0b : (r != 0) = true := by simpa using h0
    have HE : Sl (x.rerr key = r) := ⟨by rw [← HX.out, Mx.rerr_a (by rw [HR.out]; exact h0), HR.out]⟩
    have H0 : Sl _ := ⟨h0⟩
    go_wp2_with fail
    go_ret2
    exact ⟨RowR.bad HE.out H0.out, HU.out⟩
set_option maxHeartbeats 3200000 in
set_option maxRecDepth 100000 in
/-- sameInts of two rows that read alike -/
theorem sameInts11_any (A B : Option Addr) (n c d : Nat) (l : List Int) (w : World) (h1 : II w A n l) (h2 : II w B n l) (hn : n ≤ 9223372036854775807) :
    Calls Tryz.prog 12 #[.slice A n c, .slice B n d] w fun e w' => e = .returned (.bool true) ∧ ∃ m, w' = w.drewN m := by
  have H1 : Sl _ := ⟨h1⟩
  have H2 : Sl _ := ⟨h2⟩
  clear h1 h2
  have hne : ((n : Int) != (n : Int)) = false := by simp
  go_enter Tryz.func12, Tryz.ntmps12
  go_wp2_with fail
  go_loopw [5] (fun s5 wr => ∃ (k : Nat), k ≤ n ∧ s5 = .int .i64 k ∧ Sl (∃ q, wr = w.drewN q)) (fun s5 _ => n - (RowKit.intOf s5).toNat)
  case atStart => exact ⟨0, Nat.zero_le _, rfl, ⟨0, rfl⟩⟩
  case round =>
    obtain ⟨k, hk, rfl, HK⟩ := hrel
    by_cases hkn : k < n
    · have HA : Sl (II wr A n l) := ⟨by obtain ⟨q, hq⟩ := HK.out; rw [hq]; exact ⟨H1.out.1, H1.out.2.drewN q⟩⟩
      have HB : Sl (II wr B n l) := ⟨by obtain ⟨q, hq⟩ := HK.out; rw [hq]; exact ⟨H2.out.1, H2.out.2.drewN q⟩⟩
      obtain ⟨ad, rfl, _, e1⟩ := HA.out.cell (j := k) hkn
      obtain ⟨bd, rfl, _, e2⟩ := HB.out.cell (j := k) hkn
      have hkI : (k : Int) < (n : Int) := by omega
      generalize gt l k = z at *
      have hz : (z != z) = false := by simp
      go_wp2_with fail
      go_quiet (fail)
      go_wp2_with fail
      refine ⟨⟨k + 1, hkn, by go_num, ⟨by obtain ⟨q, hq⟩ := HK.out; exact ⟨q + nq, by rw [hq, drew2]⟩⟩⟩, by simp [RowKit.intOf]; omega⟩
    · obtain rfl : k = n := by omega
      go_wp2_with fail
      go_ret
      exact ⟨rfl, HK.out⟩
end Go.Proofs.YtkjkbhkcebbjdaaGreatDoor
