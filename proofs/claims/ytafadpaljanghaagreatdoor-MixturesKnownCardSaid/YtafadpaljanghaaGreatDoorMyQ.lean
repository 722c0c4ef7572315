/- Package mixtures: Check. -/
import Derived.Test.YtafadpaljanghaaGreatDoorMyP
namespace Go.Proofs.YtafadpaljanghaaGreatDoor
set_option linter.unusedSimpArgs false
open Go.RowKit
set_option linter.unusedVariables false

theorem Mx.chk_a {x : Mx} (h : x.chk1 ≠ 0) : x.chk = x.chk1 := by unfold Mx.chk; rw [if_pos h]
theorem Mx.chk_b {x : Mx} (h : x.chk1 = 0) : x.chk = if x.snd then 7 else 0 := by unfold Mx.chk; rw [if_neg (by rw [h]; decide)]
set_option maxHeartbeats 6400000 in
set_option maxRecDepth 100000 in
theorem Check_any (a b : Int) (A : Option Addr) (n c : Nat) (L : List Bk) (w : World) (hM : MXA w A n c L) (ha : i64 a) (hb : i64 b) :
    Calls Tryz.prog 31 #[.agg #[.int .i64 a, .int .i64 b, .slice A n c]] w fun e w' => e = .returned (.int .i64 (mxO a b L).chk) ∧ Below w.heap.size w w' := by
  have HU : Sl (Below w.heap.size w (w.alloc (.cells #[.int .i64 a, .int .i64 b, .slice A n c] 34))) := ⟨(Below.refl _ _).alloc (Nat.le_refl _) _⟩
  have HBK : Sl _ := ⟨Blk.new w 34 #[.int .i64 a, .int .i64 b, .slice A n c]⟩
  have HM : Sl _ := ⟨hM.below HU.out⟩
  have HL : Sl (L.length = n) := ⟨hM.mx.len⟩
  have HCK : Sl _ := ⟨mxcheck_any w.heap.size a b A n c L _ HBK.out HM.out ha hb⟩
  clear hM ha hb
  obtain ⟨r1, hr1⟩ : ∃ r, (mxO a b L).chk1 = r := ⟨_, rfl⟩
  rw [hr1] at HCK
  have HR1 : Sl _ := ⟨hr1⟩
  clear hr1
  obtain ⟨r, hr⟩ : ∃ r, (mxO a b L).chk = r := ⟨_, rfl⟩
  rw [hr]
  have HR : Sl _ := ⟨hr⟩
  clear hr
  go_enter Tryz.func31, Tryz.ntmps31
  go_wp2_with fail
  generalize w.alloc (.cells #[.int .i64 a, .int .i64 b, .slice A n c] 34) = w0 at *
  refine HCK.out.mono ?_; rintro e w1 ⟨rfl, hb⟩
  replace HU : Sl (Below w.heap.size w w1) := ⟨HU.out.trans (hb.mono HU.out.size)⟩
  replace HBK : Sl (Blk w1 w.heap.size _ _) := ⟨HBK.out.below hb HBK.out.lt⟩
  replace HM : Sl (MXA w1 A n c L) := ⟨HM.out.below hb⟩
  clear hb HCK
  by_cases h0 : r1 = 0
  · have HF : Sl (mxO a b L).Fine := ⟨Mx.fine (by rw [HR1.out, h0])⟩
    have HV : Sl (r = if (mxO a b L).snd then 7 else 0) := ⟨by rw [← HR.out]; exact Mx.chk_b (by rw [HR1.out, h0])⟩
    have h0b : (r1 != 0) = false := by rw [h0]; rfl
    have HNN : Sl (n ≤ 12) := ⟨by have := HF.out.n1; rw [mxO_n, HL.out] at this; exact this⟩
    clear HR HR1
    have c2 := HBK.out.cell 2
    simp at c2
    go_wp2_with fail
    clear c2
    go_loopw [4, 5, 13] (fun s4 s5 s13 wr => ∃ (k : Nat) (v4 v5 : Value), k ≤ n ∧ s13 = .int .i64 k ∧ s4 = v4 ∧ s5 = v5 ∧ Sl ((∀ i, i < k → (mxO a b L).bad i = false) ∧ Below w1.heap.size w1 wr)) (fun _ _ s13 _ => n - (RowKit.intOf s13).toNat)
    case atStart => exact ⟨0, _, _, Nat.zero_le _, rfl, rfl, rfl, ⟨fun i hi => absurd hi (Nat.not_lt_zero _), Below.refl _ _⟩⟩
    case round =>
      obtain ⟨k, v4, v5, hk, rfl, rfl, rfl, HK⟩ := hrel
      by_cases hkn : k < n
      · obtain ⟨bk, hbk⟩ : ∃ bk, L[k]? = some bk := ⟨_, List.getElem?_eq_getElem (by rw [HL.out]; exact hkn)⟩
        have HMr : Sl (MXA wr A n c L) := ⟨HM.out.below HK.out.2⟩
        have HBr : Sl (Blk wr w.heap.size 34 #[.int .i64 a, .int .i64 b, .slice A n c]) := ⟨HBK.out.below HK.out.2 HBK.out.lt⟩
        obtain ⟨ad, rfl, hab, e1, e2⟩ := HMr.out.mx.cells2 hbk
        have HII : Sl (II wr bk.A bk.n bk.l) := ⟨HMr.out.mx.rk bk (List.mem_of_getElem? hbk)⟩
        have HRK : Sl ((mxO a b L).fr k = bk.fr ∧ (mxO a b L).rk k = bk.l) := ⟨mxO_at hbk⟩
        have hkx : k < (mxO a b L).n := by rw [mxO_n, HL.out]; exact hkn
        have hlen : 0 < bk.n ∧ bk.n ≤ 8 := by
          have h1 := HF.out.k1 k hkx
          have h2 := HF.out.k0 k hkx
          rw [HRK.out.2, HII.out.1] at h1 h2
          exact ⟨h2, h1⟩
        have hfr : 0 ≤ bk.fr ∧ bk.fr ≤ 127 := by
          have := HF.out.fr_bd hkx
          rw [HRK.out.1] at this; exact this
        have hla := HF.out.last_bd hkx
        obtain ⟨j, hj⟩ : ∃ j, bk.n = j + 1 := ⟨bk.n - 1, by omega⟩
        have hg0 : -24 ≤ gt bk.l 0 ∧ gt bk.l 0 ≤ 72 := by
          have := HF.out.rg k hkx 0 (by rw [HRK.out.2, HII.out.1]; omega)
          rw [HRK.out.2] at this; exact this
        have hgj : -24 ≤ gt bk.l j ∧ gt bk.l j ≤ 72 := by
          have := HF.out.rg k hkx j (by rw [HRK.out.2, HII.out.1]; omega)
          rw [HRK.out.2] at this; exact this
        have HBAD : Sl ((mxO a b L).bad k = (decide (bk.fr + gt bk.l 0 < 0) || decide (139 < (mxO a b L).last k + gt bk.l j))) := ⟨by
          unfold Mx.bad
          rw [HRK.out.1, HRK.out.2, HII.out.1, hj]; rfl⟩
        have HLA : Sl _ := ⟨fun (W : World) (h1 : Blk W w.heap.size 34 #[.int .i64 a, .int .i64 b, .slice (some ad) n c]) (h2 : MXA W (some ad) n c L) => last_any w.heap.size a b (some ad) n c L k W h1 h2 hkn (by have := HNN.out; omega) ⟨by omega, by omega⟩⟩
        clear hbk
        obtain ⟨fr, BA, bn, bc, bl⟩ := bk
        simp only [] at e1 e2 HII hlen hfr hj hg0 hgj HBAD
        generalize (mxO a b L).last k = la at *
        have HJ : Sl _ := ⟨hj⟩
        clear hj
        have HBW : Sl (Below wr.heap.size wr (wr.alloc (.cells #[.int .i64 fr, .slice BA bn bc] 59))) := ⟨(Below.refl _ _).alloc (Nat.le_refl _) _⟩
        have XN : Sl (Blk (wr.alloc (.cells #[.int .i64 fr, .slice BA bn bc] 59)) wr.heap.size 59 #[.int .i64 fr, .slice BA bn bc]) := ⟨Blk.new _ _ _⟩
        have hlt : (k : Int) < (n : Int) := by omega
        have hn12 : n ≤ 12 := HNN.out
        go_wp2_with fail
        clear e1 e2 hab
        generalize wr.alloc (.cells #[.int .i64 fr, .slice BA bn bc] 59) = wq at *
        have x0 := XN.out.cell 0
        have x1 := XN.out.cell 1
        simp at x0 x1
        have hj := HJ.out
        have HIq : Sl (II wq BA bn bl) := ⟨HII.out.below HBW.out⟩
        obtain ⟨ad', rfl, hab', y0⟩ := HIq.out.cell (j := 0) (by omega)
        obtain ⟨ad2, e, _, yj⟩ := HIq.out.cell (j := j) (by omega)
        injection e with e
        subst e
        have y0' : wq.cell? ad' = some (.int .i64 (gt bl 0)) := by simpa [Addr.add] using y0
        generalize gt bl 0 = z0 at *
        generalize gt bl j = zj at *
        have VA : Sl (∀ z, Calls Tryz.prog 63 #[.pointer (some ⟨w.heap.size, 0, none⟩), .int .i64 k] (wq.drewN z) fun e w'' => e = .returned (.int .i64 la) ∧ ∃ k, w'' = wq.drewN k) := ⟨fun z => (HLA.out (wq.drewN z) ((HBr.out.below HBW.out HBr.out.lt).drewN z) (HMr.out.below (below_drewN HBW.out z))).mono fun e w'' h => ⟨h.1, z, h.2⟩⟩
        have HKU : Sl (Below w1.heap.size w1 wq) := ⟨HK.out.2.trans (HBW.out.mono HK.out.2.size)⟩
        have hbj : (bn : Int) - 1 = (j : Int) := by omega
        have hj7 : j ≤ 7 := by omega
        have hjl : (j : Int) < (bn : Int) := by omega
        have hb0 : (0 : Int) < (bn : Int) := by omega
        have hw1 : IntKind.i64.wrap (fr + z0) = fr + z0 := by rw [IntKind.wrap_i64]; omega
        have hw2 : IntKind.i64.wrap (la + zj) = la + zj := by rw [IntKind.wrap_i64]; omega
        clear y0 hab' hj HLA
        by_cases h1 : fr + z0 < 0
        · have HB : Sl ((mxO a b L).snd = true) := ⟨anyN_hit hkx (by rw [HBAD.out, decide_eq_true h1]; rfl)⟩
          have h1d : decide (fr + z0 < 0) = true := decide_eq_true h1
          clear hkx
          go_quiet ((go_at_call 63; (with_reducible exact VA.out _)))
          go_wp2_with fail
          go_ret
          exact ⟨by rw [HV.out, HB.out]; rfl, below_drewN (HU.out.trans (HKU.out.mono HU.out.size)) nq⟩
        · have h1d : decide (fr + z0 < 0) = false := decide_eq_false h1
          by_cases h2 : 139 < la + zj
          · have HB : Sl ((mxO a b L).snd = true) := ⟨anyN_hit hkx (by rw [HBAD.out, decide_eq_true h2, Bool.or_true])⟩
            have h2d : decide (139 < la + zj) = true := decide_eq_true h2
            clear hkx
            go_quiet ((go_at_call 63; (with_reducible exact VA.out _)))
            go_wp2_with fail
            go_ret
            exact ⟨by rw [HV.out, HB.out]; rfl, below_drewN (HU.out.trans (HKU.out.mono HU.out.size)) nq⟩
          · have h2d : decide (139 < la + zj) = false := decide_eq_false h2
            have HB : Sl ((mxO a b L).bad k = false) := ⟨by rw [HBAD.out, h1d, h2d]; rfl⟩
            clear hkx
            go_quiet ((go_at_call 63; (with_reducible exact VA.out _)))
            go_wp2_with fail
            refine ⟨⟨k + 1, _, _, hkn, by go_num, rfl, rfl, ⟨fun i hi => ?_, below_drewN HKU.out nq⟩⟩, by simp [RowKit.intOf]; omega⟩
            rcases Nat.lt_or_ge i k with h | h
            · exact HK.out.1 i h
            · rw [show i = k by omega]; exact HB.out
      · obtain rfl : k = n := by omega
        have HB : Sl ((mxO a b L).snd = false) := ⟨anyN_no.2 fun i hi => HK.out.1 i (by rw [mxO_n, HL.out] at hi; exact hi)⟩
        go_wp2_with fail
        go_ret
        exact ⟨by rw [HV.out, HB.out]; rfl, HU.out.trans (HK.out.2.mono HU.out.size)⟩
  · have HV : Sl (r = r1) := ⟨by rw [← HR.out, Mx.chk_a (by rw [HR1.out]; exact h0), HR1.out]⟩
    have h0b : (r1 != 0) = true := by simpa using h0
    go_wp2_with fail
    go_ret
    exact ⟨by rw [HV.out]; rfl, HU.out⟩
end Go.Proofs.YtafadpaljanghaaGreatDoor
