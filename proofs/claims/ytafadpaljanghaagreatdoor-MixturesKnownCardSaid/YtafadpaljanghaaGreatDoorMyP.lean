/- Package mixtures: check. -/
import Derived.Test.YtafadpaljanghaaGreatDoorMyL
namespace Go.Proofs.YtafadpaljanghaaGreatDoor
set_option linter.unusedSimpArgs false
open Go.RowKit
set_option linter.unusedVariables false

theorem Mx.chk1_a {x : Mx} (h : x.cmp = false) : x.chk1 = 7 := by unfold Mx.chk1; rw [if_pos h]
theorem Mx.chk1_b {x : Mx} (h : x.cmp = true) (h2 : x.long = true) : x.chk1 = 3 := by unfold Mx.chk1; rw [if_neg (by rw [h]; decide), if_pos h2]
theorem Mx.chk1_c {x : Mx} (h : x.cmp = true) (h2 : x.long = false) (h3 : x.arg = true) : x.chk1 = 2 := by
  unfold Mx.chk1; rw [if_neg (by rw [h]; decide), if_neg (by rw [h2]; decide), if_pos h3]
theorem Mx.chk1_d {x : Mx} (h : x.cmp = true) (h2 : x.long = false) (h3 : x.arg = false) : x.chk1 = if x.rng then 7 else 0 := by
  unfold Mx.chk1; rw [if_neg (by rw [h]; decide), if_neg (by rw [h2]; decide), if_neg (by rw [h3]; decide)]
theorem Mx.arg_0 {x : Mx} (h : x.n = 0) : x.arg = true := by unfold Mx.arg; simp [h]
theorem Mx.arg_1 {x : Mx} (h : x.fr 0 ≠ x.a) : x.arg = true := by unfold Mx.arg; simp [h]
theorem Mx.arg_2 {x : Mx} {i : Nat} (hi : i < x.n) (h : x.ill i = true) : x.arg = true := by unfold Mx.arg; rw [anyN_hit hi h]; simp
theorem Mx.arg_3 {x : Mx} (h0 : x.n ≠ 0) (h1 : x.fr 0 = x.a) (h : ∀ i, i < x.n → x.ill i = false) : x.arg = false := by unfold Mx.arg; rw [anyN_no.2 h]; simp [h0, h1]
theorem mxO_n (a b : Int) (L : List Bk) : (mxO a b L).n = L.length := rfl
theorem mxO_many {a b : Int} {L : List Bk} {w : World} {A : Option Addr} {n : Nat} (hM : MX w A n L) : (mxO a b L).many = true ↔ ∃ k ∈ L, 8 < k.n := by
  unfold Mx.many
  rw [anyN_iff]
  constructor
  · rintro ⟨i, hi, h⟩
    have hk : L[i]? = some L[i] := List.getElem?_eq_getElem hi
    refine ⟨L[i], List.mem_of_getElem? hk, ?_⟩
    rw [(mxO_at hk).2, (hM.rk _ (List.mem_of_getElem? hk)).1] at h
    exact of_decide_eq_true h
  · rintro ⟨k, hk, h⟩
    obtain ⟨i, hi⟩ := List.mem_iff_getElem?.1 hk
    have hil : i < L.length := by
      rcases Nat.lt_or_ge i L.length with a | a
      · exact a
      · rw [List.getElem?_eq_none a] at hi; cases hi
    exact ⟨i, hil, by rw [(mxO_at hi).2, (hM.rk _ hk).1]; exact decide_eq_true h⟩
set_option maxHeartbeats 6400000 in
set_option maxRecDepth 100000 in
theorem mxcheck_any (g : Nat) (a b : Int) (A : Option Addr) (n c : Nat) (L : List Bk) (w : World) (hB : Blk w g 34 #[.int .i64 a, .int .i64 b, .slice A n c]) (hM : MXA w A n c L) (ha : i64 a) (hb : i64 b) :
    Calls Tryz.prog 47 #[.pointer (some ⟨g, 0, none⟩)] w fun e w' => e = .returned (.int .i64 (mxO a b L).chk1) ∧ Below w.heap.size w w' := by
  have hrun : ∀ (args : Array Value) (w : World), (callFunc 69 args).run Tryz.prog w = .ok (.enter 69 args) w := fun a w => by go_simp
  have CC : Sl _ := ⟨fun z : Nat => compass_any a b (w.drewN z) ha hb⟩
  obtain ⟨cb, hcb⟩ : ∃ cb, (decide (0 ≤ a) && decide (b ≤ 127) && decide (a ≤ b) && decide (b - a < 61)) = cb := ⟨_, rfl⟩
  rw [hcb] at CC
  have HC : Sl ((mxO a b L).cmp = cb) := ⟨by unfold Mx.cmp; exact hcb⟩
  have VA : Sl (∀ z, Calls Tryz.prog 67 #[.int .i64 a, .int .i64 b] (w.drewN z) fun e w'' => e = .returned (.bool cb) ∧ ∃ k, w'' = w.drewN k) := ⟨fun z => (CC.out z).mono fun e w'' h => ⟨h.1, z, h.2⟩⟩
  have HL : Sl (L.length = n) := ⟨hM.mx.len⟩
  have HM : Sl _ := ⟨hM⟩
  have HBK : Sl _ := ⟨hB⟩
  have HAB : Sl (i64 a ∧ i64 b) := ⟨ha, hb⟩
  obtain ⟨r, hr⟩ : ∃ r, (mxO a b L).chk1 = r := ⟨_, rfl⟩
  rw [hr]
  have HR : Sl _ := ⟨hr⟩
  have c0 := hB.cell 0
  have c1 := hB.cell 1
  have c2 := hB.cell 2
  simp at c0 c1 c2
  clear hM ha hb hB CC hcb hr
  go_enter Tryz.func47, Tryz.ntmps47
  go_wp2_with fail
  go_quiet ((go_at_call 67; (with_reducible exact VA.out _)))
  clear VA
  cases cb
  · go_wp2_with fail
    go_ret
    exact ⟨by rw [← HR.out, Mx.chk1_a HC.out]; rfl, below_drewN (Below.refl _ _) nq⟩
  · have HU : Sl _ := ⟨below_drewN (Below.refl w.heap.size w) nq⟩
    replace HBK : Sl (Blk (w.drewN nq) g _ _) := ⟨HBK.out.drewN nq⟩
    replace HM : Sl (MXA (w.drewN nq) A n c L) := ⟨HM.out.below HU.out⟩
    clear c0 c1 c2
    generalize w.drewN nq = w1 at *
    have c0 := HBK.out.cell 0
    have c1 := HBK.out.cell 1
    have c2 := HBK.out.cell 2
    simp at c0 c1 c2
    by_cases h12 : 12 < n
    · have h12i : (12 : Int) < (n : Int) := by omega
      have h12d : decide ((12 : Int) < (n : Int)) = true := decide_eq_true h12i
      go_wp2_with fail
      go_ret
      exact ⟨by rw [← HR.out, Mx.chk1_b HC.out (by unfold Mx.long; rw [mxO_n, HL.out, decide_eq_true h12]; rfl)]; rfl, HU.out⟩
    · have h12i : ¬ (12 : Int) < (n : Int) := by omega
      have h12d : decide ((12 : Int) < (n : Int)) = false := decide_eq_false h12i
      have HN : Sl (n ≤ 12) := ⟨by omega⟩
      obtain ⟨lb, hlb⟩ : ∃ lb, (mxO a b L).many = lb := ⟨_, rfl⟩
      have HLB : Sl _ := ⟨hlb⟩
      have HLG : Sl ((mxO a b L).long = lb) := ⟨by unfold Mx.long; rw [mxO_n, HL.out, decide_eq_false h12, hlb]; rfl⟩
      have HA : Sl _ := ⟨hasLong_any A n c L w1 HM.out.mx (by omega) lb (by rw [← hlb]; exact mxO_many HM.out.mx)⟩
      clear hlb
      go_wp2_with fail
      refine HA.out.mono ?_; rintro e w2 ⟨rfl, hb⟩
      clear HA
      replace HU : Sl (Below w.heap.size w w2) := ⟨HU.out.trans (hb.mono HU.out.size)⟩
      replace HBK : Sl (Blk w2 g _ _) := ⟨HBK.out.below hb HBK.out.lt⟩
      replace HM : Sl (MXA w2 A n c L) := ⟨HM.out.below hb⟩
      clear hb c0 c1 c2
      have c0 := HBK.out.cell 0
      have c1 := HBK.out.cell 1
      have c2 := HBK.out.cell 2
      simp at c0 c1 c2
      cases lb
      · by_cases hn0 : n = 0
        · subst hn0
          go_wp2_with fail
          go_quiet (fail)
          go_wp2_with fail
          go_ret
          exact ⟨by rw [← HR.out, Mx.chk1_c HC.out HLG.out (Mx.arg_0 (by rw [mxO_n, HL.out]))]; rfl, below_drewN HU.out nq⟩
        · obtain ⟨k0, hk0⟩ : ∃ k, L[0]? = some k := ⟨_, List.getElem?_eq_getElem (by rw [HL.out]; omega)⟩
          obtain ⟨ad, rfl, hab, e1, e2⟩ := HM.out.mx.cells2 hk0
          have HF0 : Sl ((mxO a b L).fr 0 = k0.fr) := ⟨(mxO_at hk0).1⟩
          clear e2 hk0
          generalize k0.fr = z at *
          have hn0i : ((n : Int) == 0) = false := by rw [beq_eq_false_iff_ne]; omega
          have hn0p : (0 : Int) < (n : Int) := by omega
          have e1' : w2.cell? ad = some (.int .i64 z) := by simpa [Addr.add] using e1
          clear e1
          by_cases hza : z = a
          · rw [hza] at e1' HF0
            clear hza z
            have hzb : (a != a) = false := by simp
            go_wp2_with fail
            go_quiet (fail)
            replace HU : Sl (Below w.heap.size w (w2.drewN nq)) := ⟨below_drewN HU.out nq⟩
            replace HBK : Sl (Blk (w2.drewN nq) g _ _) := ⟨HBK.out.drewN nq⟩
            replace HM : Sl (MXA (w2.drewN nq) (some ad) n c L) := ⟨HM.out.below (below_drewN (Below.refl _ _) nq)⟩
            clear c0 c1 c2 e1'
            generalize w2.drewN nq = w3 at *
            have c0 := HBK.out.cell 0
            have c1 := HBK.out.cell 1
            have c2 := HBK.out.cell 2
            simp at c0 c1 c2
            have HN0 : Sl (n ≠ 0) := ⟨hn0⟩
            go_wp2_with fail
            clear hn0i hn0p hn0 h12i h12d h12 c0 c1 c2
            go_loopw [3, 4, 5, 54] (fun s3 s4 s5 s54 wr => ∃ (k : Nat) (q : Bool) (v4 v5 : Value), k ≤ n ∧ s54 = .int .i64 k ∧ s3 = .bool q ∧ s4 = v4 ∧ s5 = v5 ∧ Sl ((q = anyN k fun i => outL ((mxO a b L).rk i)) ∧ (∀ i, i < k → (mxO a b L).ill i = false) ∧ Below w3.heap.size w3 wr)) (fun _ _ _ s54 _ => n - (RowKit.intOf s54).toNat)
            case atStart => exact ⟨0, false, _, _, Nat.zero_le _, rfl, rfl, rfl, rfl, ⟨rfl, fun i hi => absurd hi (Nat.not_lt_zero _), Below.refl _ _⟩⟩
            case round =>
              obtain ⟨k, q, v4, v5, hk, rfl, rfl, rfl, rfl, HK⟩ := hrel
              by_cases hkn : k < n
              · obtain ⟨bk, hbk⟩ : ∃ bk, L[k]? = some bk := ⟨_, List.getElem?_eq_getElem (by rw [HL.out]; exact hkn)⟩
                have HMr : Sl (MXA wr (some ad) n c L) := ⟨HM.out.below HK.out.2.2⟩
                have HBr : Sl (Blk wr g 34 #[.int .i64 a, .int .i64 b, .slice (some ad) n c]) := ⟨HBK.out.below HK.out.2.2 HBK.out.lt⟩
                obtain ⟨ad', e, hab, e1, e2⟩ := HMr.out.mx.cells2 hbk
                injection e with e
                subst e
                have HII : Sl (II wr bk.A bk.n bk.l) := ⟨HMr.out.mx.rk bk (List.mem_of_getElem? hbk)⟩
                have HRK : Sl ((mxO a b L).fr k = bk.fr ∧ (mxO a b L).rk k = bk.l) := ⟨mxO_at hbk⟩
                have HB8 : Sl (bk.n ≤ 8) := ⟨by
                  have h1 := (Mx.long_ok HLG.out).2 k (by rw [mxO_n, HL.out]; exact hkn)
                  rw [HRK.out.2, HII.out.1] at h1; exact h1⟩
                clear hbk
                obtain ⟨fr, BA, bn, bc, bl⟩ := bk
                simp only [] at e1 e2 HII HRK HB8
                have hb8 := HB8.out
                have HBW : Sl (Below wr.heap.size wr (wr.alloc (.cells #[.int .i64 fr, .slice BA bn bc] 59))) := ⟨(Below.refl _ _).alloc (Nat.le_refl _) _⟩
                have XN : Sl (Blk (wr.alloc (.cells #[.int .i64 fr, .slice BA bn bc] 59)) wr.heap.size 59 #[.int .i64 fr, .slice BA bn bc]) := ⟨Blk.new _ _ _⟩
                have hlt : (k : Int) < (n : Int) := by omega
                go_wp2_with fail
                clear e1 e2 hab
                generalize wr.alloc (.cells #[.int .i64 fr, .slice BA bn bc] 59) = wq at *
                have x0 := XN.out.cell 0
                have x1 := XN.out.cell 1
                have c0 := (HBr.out.below HBW.out HBr.out.lt).cell 0
                have c1 := (HBr.out.below HBW.out HBr.out.lt).cell 1
                have c2 := (HBr.out.below HBW.out HBr.out.lt).cell 2
                simp at x0 x1 c0 c1 c2
                have HIq : Sl (II wq BA bn bl) := ⟨HII.out.below HBW.out⟩
                obtain ⟨sb, hsb⟩ : ∃ sb, dn bl = sb := ⟨_, rfl⟩
                have VA : Sl (∀ z, Calls Tryz.prog 70 #[.slice BA bn bc] (wq.drewN z) fun e w'' => e = .returned (.bool (!sb)) ∧ ∃ k, w'' = wq.drewN k) := ⟨fun z => (isSorted_any BA bn bc bl (wq.drewN z) ⟨HIq.out.1, HIq.out.2.drewN z⟩ (by omega)).mono fun e w'' h => ⟨by rw [← hsb]; exact h.1, by obtain ⟨k, hk⟩ := h.2; exact ⟨z + k, by rw [hk, drew2]⟩⟩⟩
                have HSB : Sl _ := ⟨hsb⟩
                clear hsb
                have HKU : Sl (Below w3.heap.size w3 wq) := ⟨HK.out.2.2.trans (HBW.out.mono HK.out.2.2.size)⟩
                have bad : (mxO a b L).ill k = true → r = 2 := fun h => by rw [← HR.out]; exact Mx.chk1_c HC.out HLG.out (Mx.arg_2 (by rw [mxO_n, HL.out]; exact hkn) h)
                have hill : (mxO a b L).ill k = (decide (bn = 0) || sb || decide (b < fr) || (decide (0 < k) && decide (fr ≤ (mxO a b L).fr (k - 1)))) := by
                  unfold Mx.ill
                  rw [HRK.out.1, HRK.out.2, HIq.out.1, HSB.out]
                  rfl
                have BAD : Sl _ := ⟨bad⟩
                have HILL : Sl _ := ⟨hill⟩
                clear bad hill
                by_cases hbn : bn = 0
                · have HV : Sl (r = 2) := ⟨BAD.out (by rw [HILL.out, decide_eq_true hbn]; rfl)⟩
                  have hbi : ((bn : Int) == 0) = true := by rw [hbn]; rfl
                  go_quiet (fail)
                  go_wp2_with fail
                  go_ret
                  exact ⟨by rw [HV.out]; rfl, below_drewN (HU.out.trans (HKU.out.mono HU.out.size)) nq⟩
                · have hbi : ((bn : Int) == 0) = false := by rw [beq_eq_false_iff_ne]; omega
                  have ILN : Sl (decide (bn = 0) = false) := ⟨decide_eq_false hbn⟩
                  cases sb
                  · by_cases hfb : b < fr
                    · have HV : Sl (r = 2) := ⟨BAD.out (by rw [HILL.out, decide_eq_true hfb, Bool.or_true]; rfl)⟩
                      have hfd : decide (b < fr) = true := decide_eq_true hfb
                      go_quiet ((go_at_call 70; (with_reducible exact VA.out _)))
                      go_wp2_with fail
                      go_ret
                      exact ⟨by rw [HV.out]; rfl, below_drewN (HU.out.trans (HKU.out.mono HU.out.size)) nq⟩
                    · have hfd : decide (b < fr) = false := decide_eq_false hfb
                      by_cases hk0 : k = 0
                      · have hkd : ¬ (0 : Int) < (k : Int) := by omega
                        have hkd2 : decide ((0 : Int) < (k : Int)) = false := decide_eq_false hkd
                        have HF : Sl ((mxO a b L).ill k = false) := ⟨by rw [HILL.out, ILN.out, hfd, decide_eq_false (show ¬ 0 < k by omega)]; rfl⟩
                        go_quiet ((go_at_call 70; (with_reducible exact VA.out _)))
                        replace HKU : Sl (Below w3.heap.size w3 (wq.drewN nq)) := ⟨below_drewN HKU.out nq⟩
                        have x1' : (wq.drewN nq).cell? ⟨wr.heap.size, 1, none⟩ = some (.slice BA bn bc) := x1
                        have HIz : Sl (II (wq.drewN nq) BA bn bl) := ⟨HIq.out.1, HIq.out.2.drewN nq⟩
                        clear x0 x1 c0 c1 c2 VA HIq XN HBW
                        generalize wq.drewN nq = wz at *
                        have HIK : Sl (∀ i, i < k + 1 → (mxO a b L).ill i = false) := ⟨fun i hi => by
                          rcases Nat.lt_or_ge i k with h | h
                          · exact HK.out.2.1 i h
                          · rw [show i = k by omega]; exact HF.out⟩
                        cases q
                        · have HO : Sl _ := ⟨hasOut_any BA bn bc bl wz HIz.out (by omega)⟩
                          obtain ⟨ob, hob⟩ : ∃ ob, outL bl = ob := ⟨_, rfl⟩
                          rw [hob] at HO
                          have HOB : Sl _ := ⟨hob⟩
                          clear hob
                          go_wp2_with fail
                          refine HO.out.mono ?_; rintro e w5 ⟨rfl, rfl⟩
                          go_wp2_with fail
                          refine ⟨⟨k + 1, ob, _, _, hkn, by go_num, rfl, rfl, rfl, ⟨?_, HIK.out, HKU.out⟩⟩, by simp [RowKit.intOf]; omega⟩
                          rw [anyN, ← HK.out.1, HRK.out.2, HOB.out]; rfl
                        · go_wp2_with fail
                          refine ⟨⟨k + 1, true, _, _, hkn, by go_num, rfl, rfl, rfl, ⟨?_, HIK.out, HKU.out⟩⟩, by simp [RowKit.intOf]; omega⟩
                          rw [anyN, ← HK.out.1]; rfl
                      · obtain ⟨i, hi⟩ : ∃ i, k = i + 1 := ⟨k - 1, by omega⟩
                        have hkd : (0 : Int) < (k : Int) := by omega
                        have hkd2 : decide ((0 : Int) < (k : Int)) = true := decide_eq_true hkd
                        have hki : (k : Int) - 1 = (i : Int) := by omega
                        have hin : (i : Int) < (n : Int) := by omega
                        have hin2 : i < n := by omega
                        have hi12 : i ≤ 12 := by have := HN.out; omega
                        have hkp : 0 < k := by omega
                        have hkp2 : decide (0 < k) = true := decide_eq_true hkp
                        obtain ⟨pk, hpk⟩ : ∃ pk, L[i]? = some pk := ⟨_, List.getElem?_eq_getElem (by rw [HL.out]; omega)⟩
                        obtain ⟨ad', e, hab, e1, e2⟩ := (HMr.out.below HBW.out).mx.cells2 hpk
                        injection e with e
                        subst e
                        have HPF : Sl ((mxO a b L).fr i = pk.fr) := ⟨(mxO_at hpk).1⟩
                        clear e2 hpk hab
                        generalize pk.fr = pf at *
                        have HKI : Sl (k - 1 = i) := ⟨by omega⟩
                        clear hi
                        by_cases hfp : fr ≤ pf
                        · have HV : Sl (r = 2) := ⟨BAD.out (by rw [HILL.out, HKI.out, HPF.out, decide_eq_true hfp, decide_eq_true (show 0 < k by omega)]; simp)⟩
                          have hpd : decide (fr ≤ pf) = true := decide_eq_true hfp
                          go_quiet ((go_at_call 70; (with_reducible exact VA.out _)))
                          go_wp2_with fail
                          go_ret
                          exact ⟨by rw [HV.out]; rfl, below_drewN (HU.out.trans (HKU.out.mono HU.out.size)) nq⟩
                        · have hpd : decide (fr ≤ pf) = false := decide_eq_false hfp
                          have HF : Sl ((mxO a b L).ill k = false) := ⟨by rw [HILL.out, ILN.out, hfd, HKI.out, HPF.out, hpd]; simp⟩
                          go_quiet ((go_at_call 70; (with_reducible exact VA.out _)))
                          replace HKU : Sl (Below w3.heap.size w3 (wq.drewN nq)) := ⟨below_drewN HKU.out nq⟩
                          have x1' : (wq.drewN nq).cell? ⟨wr.heap.size, 1, none⟩ = some (.slice BA bn bc) := x1
                          have HIz : Sl (II (wq.drewN nq) BA bn bl) := ⟨HIq.out.1, HIq.out.2.drewN nq⟩
                          clear x0 x1 c0 c1 c2 VA HIq XN HBW
                          generalize wq.drewN nq = wz at *
                          have HIK : Sl (∀ i, i < k + 1 → (mxO a b L).ill i = false) := ⟨fun i hi => by
                            rcases Nat.lt_or_ge i k with h | h
                            · exact HK.out.2.1 i h
                            · rw [show i = k by omega]; exact HF.out⟩
                          cases q
                          · have HO : Sl _ := ⟨hasOut_any BA bn bc bl wz HIz.out (by omega)⟩
                            obtain ⟨ob, hob⟩ : ∃ ob, outL bl = ob := ⟨_, rfl⟩
                            rw [hob] at HO
                            have HOB : Sl _ := ⟨hob⟩
                            clear hob
                            go_wp2_with fail
                            refine HO.out.mono ?_; rintro e w5 ⟨rfl, rfl⟩
                            go_wp2_with fail
                            refine ⟨⟨k + 1, ob, _, _, hkn, by go_num, rfl, rfl, rfl, ⟨?_, HIK.out, HKU.out⟩⟩, by simp [RowKit.intOf]; omega⟩
                            rw [anyN, ← HK.out.1, HRK.out.2, HOB.out]; rfl
                          · go_wp2_with fail
                            refine ⟨⟨k + 1, true, _, _, hkn, by go_num, rfl, rfl, rfl, ⟨?_, HIK.out, HKU.out⟩⟩, by simp [RowKit.intOf]; omega⟩
                            rw [anyN, ← HK.out.1]; rfl
                  · have HV : Sl (r = 2) := ⟨BAD.out (by rw [HILL.out, Bool.or_true]; rfl)⟩
                    go_quiet ((go_at_call 70; (with_reducible exact VA.out _)))
                    go_wp2_with fail
                    go_ret
                    exact ⟨by rw [HV.out]; rfl, below_drewN (HU.out.trans (HKU.out.mono HU.out.size)) nq⟩
              · obtain rfl : k = n := by omega
                have HAF : Sl ((mxO a b L).arg = false) := ⟨Mx.arg_3 (by rw [mxO_n, HL.out]; exact HN0.out) HF0.out (fun i hi => HK.out.2.1 i (by rw [mxO_n, HL.out] at hi; exact hi))⟩
                have HQ : Sl ((mxO a b L).rng = q) := ⟨by rw [HK.out.1]; unfold Mx.rng; rw [mxO_n, HL.out]⟩
                have HRR : Sl (r = if q = true then 7 else 0) := ⟨by rw [← HR.out, Mx.chk1_d HC.out HLG.out HAF.out, HQ.out]⟩
                cases q
                · go_wp2_with fail
                  go_ret
                  exact ⟨by rw [HRR.out]; rfl, HU.out.trans (HK.out.2.2.mono HU.out.size)⟩
                · go_wp2_with fail
                  go_ret
                  exact ⟨by rw [HRR.out]; rfl, HU.out.trans (HK.out.2.2.mono HU.out.size)⟩
          · have hzb : (z != a) = true := by simpa using hza
            go_wp2_with fail
            go_quiet (fail)
            go_wp2_with fail
            go_ret
            exact ⟨by rw [← HR.out, Mx.chk1_c HC.out HLG.out (Mx.arg_1 (by rw [HF0.out]; exact hza))]; rfl, below_drewN HU.out nq⟩
      · go_wp2_with fail
        go_ret
        exact ⟨by rw [← HR.out, Mx.chk1_b HC.out HLG.out]; rfl, HU.out⟩
end Go.Proofs.YtafadpaljanghaaGreatDoor
