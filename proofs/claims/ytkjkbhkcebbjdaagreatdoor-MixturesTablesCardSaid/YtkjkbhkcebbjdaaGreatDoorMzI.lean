/- The reference of chapter 11: Steps. -/
import Derived.Test.YtkjkbhkcebbjdaaGreatDoorMzH
import Derived.Test.YtkjkbhkcebbjdaaGreatDoorMyV
namespace Go.Proofs.YtkjkbhkcebbjdaaGreatDoor
set_option linter.unusedSimpArgs false
open Go.RowKit
set_option linter.unusedVariables false

set_option maxHeartbeats 12800000 in
set_option maxRecDepth 100000 in
theorem rSteps_any (a b : Int) (A : Option Addr) (n c : Nat) (L : List Bk) (w : World) (hM : MXA w A n c L) (ha : i64 a) (hb : i64 b) :
    Calls Tryz.prog 19 #[.agg #[.int .i64 a, .int .i64 b, .slice A n c]] w fun e w' => StpR (mxO a b L) e w' ∧ Below w.heap.size w w' := by
  have HU : Sl (Below w.heap.size w (w.alloc (.cells #[.int .i64 a, .int .i64 b, .slice A n c] 24))) := ⟨(Below.refl _ _).alloc (Nat.le_refl _) _⟩
  have HBK : Sl _ := ⟨Blk.new w 24 #[.int .i64 a, .int .i64 b, .slice A n c]⟩
  have HM : Sl _ := ⟨hM.below HU.out⟩
  have HCK : Sl _ := ⟨rCheck_any a b A n c L _ HM.out ha hb⟩
  have HL : Sl (L.length = n) := ⟨hM.mx.len⟩
  clear hM ha hb
  obtain ⟨i2, z2, hi0, hz0, hz1, hz2, hz3⟩ := infoStp
  have HI : Sl _ := ⟨And.intro hi0 (And.intro hz0 (And.intro hz1 (And.intro hz2 hz3)))⟩
  clear hi0 hz0 hz1 hz2 hz3
  obtain ⟨x, hx⟩ : ∃ x, mxO a b L = x := ⟨_, rfl⟩
  rw [hx] at HCK ⊢
  have HX : Sl _ := ⟨hx⟩
  clear hx
  obtain ⟨r, hr⟩ : ∃ r, x.chk = r := ⟨_, rfl⟩
  rw [hr] at HCK
  have HR : Sl _ := ⟨hr⟩
  clear hr
  go_enter Tryz.func19, Tryz.ntmps19
  go_wp2_with fail
  generalize w.alloc (.cells #[.int .i64 a, .int .i64 b, .slice A n c] 24) = w0 at *
  refine HCK.out.mono ?_; rintro e w1 ⟨rfl, hb⟩
  replace HU : Sl (Below w.heap.size w w1) := ⟨HU.out.trans (hb.mono HU.out.size)⟩
  replace HBK : Sl (Blk w1 w.heap.size _ _) := ⟨HBK.out.below hb HBK.out.lt⟩
  replace HM : Sl (MXA w1 A n c L) := ⟨HM.out.below hb⟩
  clear hb HCK
  by_cases h0 : r = 0
  · have h0b : (r != 0) = false := by rw [h0]; rfl
    have HCH : Sl (x.chk = 0) := ⟨by rw [HR.out, h0]⟩
    have HF : Sl x.Fine := ⟨Mx.fine (Mx.chk_ok HCH.out).1⟩
    have HXN : Sl (x.n = n) := ⟨by rw [← HX.out, mxO_n, HL.out]⟩
    clear HR
    have hn1 : 0 < n ∧ n ≤ 12 := by have h1 := HF.out.ord.pos; have h2 := HF.out.n1; rw [HXN.out] at h1 h2; exact ⟨h1, h2⟩
    have hcap := HM.out.cap
    obtain ⟨m, hm⟩ : ∃ m, n = m + 1 := ⟨n - 1, by omega⟩
    subst hm
    obtain ⟨gb, o, hA, hgb⟩ : ∃ gb o, A = some ⟨gb, o, none⟩ ∧ gb < w1.heap.size := by
      obtain ⟨bk, hbk⟩ : ∃ bk, L[0]? = some bk := ⟨_, List.getElem?_eq_getElem (by rw [HL.out]; omega)⟩
      obtain ⟨ad, e, h1, h2, _⟩ := HM.out.mx.cells hbk
      obtain ⟨gb, o, sp⟩ := ad
      have : sp = none := by
        cases sp with
        | none => rfl
        | some s =>
          unfold World.cell? at h2
          simp [Addr.add] at h2
          split at h2
          · cases h2
          · cases h2
      subst this
      exact ⟨gb, o, e, h1⟩
    subst hA
    have HCE : Sl (∀ (W : World) (i : Nat) (q : Bk), Below w1.heap.size w1 W → L[i]? = some q → W.cell? ⟨gb, o + i * 2, none⟩ = some (.int .i64 q.fr) ∧ W.cell? ⟨gb, o + i * 2 + 1, none⟩ = some (.slice q.A q.n q.c) ∧ II W q.A q.n q.l) := ⟨fun W i q h hq => by
      obtain ⟨ad, e, _, h1, h2⟩ := (HM.out.below h).mx.cells hq
      injection e with e
      subst e
      have e : ∀ k : Nat, (⟨gb, o, none⟩ : Addr).add k = ⟨gb, o + k, none⟩ := fun k => by
        unfold Addr.add
        by_cases h : k = 0
        · subst h; simp
        · simp [h]
      rw [e] at h1 h2
      exact ⟨h1, h2, (HM.out.below h).mx.rk q (List.mem_of_getElem? hq)⟩⟩
    have hm12 : m ≤ 11 := by omega
    go_wp2_with fail
    go_loopw [5, 6, 7, 8, 9] (fun s5 s6 s7 s8 s9 wr => ∃ (i : Nat) (v v7 v8 v9 : Value), i ≤ m ∧ s6 = .int .i64 ((i : Int) + 1) ∧ v = s5 ∧ s7 = v7 ∧ s8 = v8 ∧ s9 = v9 ∧ Sl (wr.ownsRow w1.heap.size 51 3 v (x.steps i).length ((x.steps i).flatMap sC) ∧ Below w1.heap.size w1 wr)) (fun _ s6 _ _ _ _ => m + 1 - (RowKit.intOf s6).toNat)
    case atStart => exact ⟨0, _, _, _, _, Nat.zero_le _, by go_num, rfl, rfl, rfl, rfl, ⟨World.ownsRow_nil _ _ _ _, Below.refl _ _⟩⟩
    case round =>
      obtain ⟨i, v, v7, v8, v9, hi, rfl, rfl, rfl, rfl, rfl, HK⟩ := hrel
      have cc2 := (HBK.out.below HK.out.2 HBK.out.lt).cell 2
      simp at cc2
      by_cases him : i < m
      · obtain ⟨p, hp⟩ : ∃ p, L[i]? = some p := ⟨_, List.getElem?_eq_getElem (by rw [HL.out]; omega)⟩
        obtain ⟨q, hq⟩ : ∃ q, L[i + 1]? = some q := ⟨_, List.getElem?_eq_getElem (by rw [HL.out]; omega)⟩
        obtain ⟨_, p2, hip⟩ := HCE.out wr i p HK.out.2 hp
        obtain ⟨q1, q2, hiq⟩ := HCE.out wr (i + 1) q HK.out.2 hq
        have HRK : Sl (x.fr (i + 1) = q.fr ∧ x.rk i = p.l ∧ x.rk (i + 1) = q.l) := ⟨by rw [← HX.out]; exact ⟨(mxO_at hq).1, (mxO_at hp).2, (mxO_at hq).2⟩⟩
        have hp8 : p.n ≤ 8 := by have := HF.out.k1 i (by rw [HXN.out]; omega); rw [HRK.out.2.1, hip.1] at this; exact this
        have hq8 : q.n ≤ 8 := by have := HF.out.k1 (i + 1) (by rw [HXN.out]; omega); rw [HRK.out.2.2, hiq.1] at this; exact this
        have HPB : Sl (∀ j, j < p.n → -24 ≤ gt p.l j ∧ gt p.l j ≤ 72) := ⟨fun j hj => by have := HF.out.rg i (by rw [HXN.out]; omega) j (by rw [HRK.out.2.1, hip.1]; exact hj); rw [HRK.out.2.1] at this; exact this⟩
        have HQB : Sl (∀ j, j < q.n → -24 ≤ gt q.l j ∧ gt q.l j ≤ 72) := ⟨fun j hj => by have := HF.out.rg (i + 1) (by rw [HXN.out]; omega) j (by rw [HRK.out.2.2, hiq.1]; exact hj); rw [HRK.out.2.2] at this; exact this⟩
        have HSL : Sl ((x.steps i).length ≤ 100) := ⟨by have := HF.out.steps_len i (by rw [HXN.out]; omega); omega⟩
        have HIW : Sl (∀ W, Below w1.heap.size w1 W → II W p.A p.n p.l ∧ II W q.A q.n q.l ∧ W.cell? ⟨gb, o + (i + 1) * 2, none⟩ = some (.int .i64 q.fr) ∧ W.cell? ⟨w.heap.size, 2, none⟩ = some (.slice (some ⟨gb, o, none⟩) (m + 1) c)) := ⟨fun W h => ⟨(HCE.out W i p h hp).2.2, (HCE.out W (i + 1) q h hq).2.2, (HCE.out W (i + 1) q h hq).1, by rw [(HBK.out.below h HBK.out.lt).cell]; rfl⟩⟩
        clear hip hiq hp hq
        obtain ⟨pf, PA, pn, pc, pl⟩ := p
        obtain ⟨qf, QA, qn, qc, ql⟩ := q
        simp only [] at p2 q1 q2 HRK HIW hp8 hq8 HPB HQB
        have hiI : (i : Int) < (m : Int) := by omega
        have hiI2 : (i : Int) < (m : Int) + 1 := by omega
        have him2 : i < m + 1 := by omega
        obtain ⟨mn, hmn⟩ : ∃ mn, min pn qn = mn := ⟨_, rfl⟩
        have hmq : mn ≤ qn := by omega
        have hmp : mn ≤ pn := by omega
        have HMN : Sl _ := ⟨hmn⟩
        obtain ⟨i1, hi1⟩ : ∃ i1, i + 1 = i1 := ⟨_, rfl⟩
        have hii : (i : Int) + 1 = (i1 : Int) := by omega
        have hij : (i1 : Int) - 1 = (i : Int) := by omega
        have hi1m : (i1 : Int) < (m : Int) + 1 := by omega
        have hi12 : i1 ≤ 12 := by omega
        have HI1 : Sl _ := ⟨hi1⟩
        rw [hi1] at q1 q2
        have hlt1 : i1 < m + 1 := by omega
        rw [hii]
        clear hmn hi1
        go_wp2_with fail
        go_quiet (fail)
        have HW9 : Sl (Below w1.heap.size w1 (wr.drewN nq)) := ⟨below_drewN HK.out.2 nq⟩
        have HO9 : Sl ((wr.drewN nq).ownsRow w1.heap.size 51 3 v (x.steps i ++ stepsL qf pl ql 0).length ((x.steps i ++ stepsL qf pl ql 0).flatMap sC)) := ⟨by rw [stepsL, List.append_nil]; exact HK.out.1⟩
        clear cc2 p2 q1 q2 HK
        generalize wr.drewN nq = w9 at *
        go_wp2_with fail
        go_loopw [5, 9] (fun s5 s9 wr => ∃ (k : Nat) (v : Value), k ≤ mn ∧ s9 = .int .i64 k ∧ v = s5 ∧ Sl (wr.ownsRow w1.heap.size 51 3 v (x.steps i ++ stepsL qf pl ql k).length ((x.steps i ++ stepsL qf pl ql k).flatMap sC) ∧ Below w1.heap.size w1 wr)) (fun _ s9 _ => mn - (RowKit.intOf s9).toNat)
        case atStart => exact ⟨0, _, Nat.zero_le _, rfl, rfl, ⟨HO9.out, HW9.out⟩⟩
        case round =>
          clear HO9 HW9
          obtain ⟨k, v, hkm, rfl, rfl, HK⟩ := hrel
          by_cases hkn : k < mn
          · obtain ⟨hip, hiq, _, _⟩ := HIW.out wr HK.out.2
            obtain ⟨ap, hap, _, cp⟩ := hip.cell (j := k) (by omega)
            obtain ⟨aq, haq, _, cq⟩ := hiq.cell (j := k) (by omega)
            subst hap haq
            have hzp := HPB.out k (by omega)
            have hzq := HQB.out k (by omega)
            obtain ⟨zp, hp⟩ : ∃ z, gt pl k = z := ⟨_, rfl⟩
            obtain ⟨zq, hq⟩ : ∃ z, gt ql k = z := ⟨_, rfl⟩
            rw [hp] at cp hzp
            rw [hq] at cq hzq
            have HPQ : Sl _ := ⟨And.intro hp hq⟩
            have HST : Sl (stepsL qf pl ql (k + 1) = if zq = zp then stepsL qf pl ql k else stepsL qf pl ql k ++ [(qf, k, zq - zp)]) := ⟨by rw [stepsL, hp, hq]⟩
            have hkI2 : (k : Int) < (pn : Int) := by omega
            have hkI3 : (k : Int) < (qn : Int) := by omega
            have hkd2 : decide ((k : Int) < (pn : Int)) = true := decide_eq_true hkI2
            have hkd3 : decide ((k : Int) < (qn : Int)) = true := decide_eq_true hkI3
            have hkn2 : k < pn := by omega
            have hkn3 : k < qn := by omega
            clear hp hq hip hiq
            by_cases hz : zq = zp
            · have hzb : (zp != zq) = false := by rw [hz]; simp
              have HSE : Sl (stepsL qf pl ql (k + 1) = stepsL qf pl ql k) := ⟨by rw [HST.out, if_pos hz]⟩
              subst hz
              go_wp2_with fail
              go_quiet (fail)
              have HON : Sl ((wr.drewN nq).ownsRow w1.heap.size 51 3 v (x.steps i ++ stepsL qf pl ql (k + 1)).length ((x.steps i ++ stepsL qf pl ql (k + 1)).flatMap sC) ∧ Below w1.heap.size w1 (wr.drewN nq)) := ⟨by rw [HSE.out]; exact HK.out.1, below_drewN HK.out.2 nq⟩
              go_wp2_with fail
              exact ⟨⟨k + 1, v, hkn, by go_num, rfl, HON⟩, by simp [RowKit.intOf]; omega⟩
            · have hzb : (zp != zq) = true := by rw [bne_iff_ne]; exact fun h => hz h.symm
              have HSE : Sl (x.steps i ++ stepsL qf pl ql (k + 1) = (x.steps i ++ stepsL qf pl ql k) ++ [(qf, k, zq - zp)]) := ⟨by rw [HST.out, if_neg hz, List.append_assoc]⟩
              have hw : IntKind.i64.wrap (zq - zp) = zq - zp := by rw [IntKind.wrap_i64]; omega
              have hsl := stepsL_len qf pl ql k
              have hsi := HSL.out
              obtain ⟨nd, hnd⟩ : ∃ nd, (x.steps i ++ stepsL qf pl ql k).length = nd := ⟨_, rfl⟩
              have hnd2 : nd ≤ 200 := by rw [← hnd, List.length_append]; omega
              have HND : Sl _ := ⟨hnd⟩
              have hko := HK.out.1
              rw [hnd] at hko
              have HKO : Sl _ := ⟨hko⟩
              clear hnd hko hsl hsi hz
              go_wp2_with fail
              go_quiet (fail)
              have HKB : Sl (Below w1.heap.size w1 (wr.drewN nq)) := ⟨below_drewN HK.out.2 nq⟩
              replace HKO : Sl ((wr.drewN nq).ownsRow w1.heap.size 51 3 v nd ((x.steps i ++ stepsL qf pl ql k).flatMap sC)) := ⟨HKO.out⟩
              clear HK cp cq
              generalize wr.drewN nq = wy at *
              go_wp2_with fail
              have HSC : Sl (∀ W, Below w1.heap.size w1 W → W.cell? ⟨w.heap.size, 2, none⟩ = some (.slice (some ⟨gb, o, none⟩) (m + 1) c) ∧ W.cell? ⟨gb, o + i1 * 2, none⟩ = some (.int .i64 qf) ∧ W.cell? (aq.add k) = some (.int .i64 zq) ∧ W.cell? (ap.add k) = some (.int .i64 zp)) := ⟨fun W h => by
                obtain ⟨hip, hiq, h3, h4⟩ := HIW.out W h
                rw [HI1.out] at h3
                obtain ⟨ap2, e, _, c1⟩ := hip.cell (j := k) hkn2
                injection e with e
                subst e
                obtain ⟨aq2, e, _, c2⟩ := hiq.cell (j := k) hkn3
                injection e with e
                subst e
                rw [HPQ.out.1] at c1
                rw [HPQ.out.2] at c2
                exact ⟨h4, h3, c2, c1⟩⟩
              have hs : RowKit.Below w1.heap.size w1 wy.drew := below_drewN HKB.out 1
              have HOA : Sl ((wy.drew.alloc (.cells #[.int .i64 qf, .int .i64 (k : Int), .int .i64 (zq - zp)] 51)).ownsRow w1.heap.size 51 3 v nd ((x.steps i ++ stepsL qf pl ql k).flatMap sC)) := ⟨xown_alloc (w := wy.drew) HKO.out _⟩
              have HSA : Sl _ := ⟨hs.alloc hs.size (.cells #[.int .i64 qf, .int .i64 (k : Int), .int .i64 (zq - zp)] 51)⟩
              go_region_held3 (fun w' : World => w'.cell? ⟨w.heap.size, 2, none⟩ = some (.slice (some ⟨gb, o, none⟩) (m + 1) c) ∧ w'.cell? ⟨gb, o + i1 * 2, none⟩ = some (.int .i64 qf) ∧ w'.cell? (aq.add k) = some (.int .i64 zq) ∧ w'.cell? (ap.add k) = some (.int .i64 zp))
                (first | (refine HSC.out _ ?_; assumption) | (refine HSC.out _ ?_; exact HSA.out) | fail)
                ((refine step_append_any _ (by rfl) _ _ _ (by rfl) w1.heap.size 51 i2 z2 3 24 Tryz.underlying43 HI.out.1 HI.out.2.1 HI.out.2.2.1 HI.out.2.2.2.1 HI.out.2.2.2.2 (by decide) v nd _ (by rfl) HOA.out _ (some ⟨wy.heap.size, 0, none⟩) 1 1 [.int .i64 qf, .int .i64 (k : Int), .int .i64 (zq - zp)] (by rfl) (xreadsN wy.drew 51 [.int .i64 qf, .int .i64 (k : Int), .int .i64 (zq - zp)] 3 rfl) (by intro u hu; simp at hu; rcases hu with rfl | rfl | rfl <;> rfl) (by unfold maxLen; omega) (by omega) HSA.out.size ?_; intro v1 w3 hown1 hg1 hat1; have hs3 : RowKit.Below w1.heap.size w1 w3 := HSA.out.grown hg1 HSA.out.size (fun k hk => (HOA.out.lt k hk).1)))
              have XQ : Sl (w3.ownsRow w1.heap.size 51 3 v1 (x.steps i ++ stepsL qf pl ql (k + 1)).length ((x.steps i ++ stepsL qf pl ql (k + 1)).flatMap sC)) := ⟨by rw [HSE.out, List.flatMap_append, List.length_append, HND.out]; exact hown1⟩
              have HS3 : Sl _ := ⟨hs3⟩
              clear hown1 hg1 hat1 hs3 hs
              go_wp2_with fail
              exact ⟨⟨k + 1, v1, hkn, by go_num, rfl, ⟨XQ.out, HS3.out⟩⟩, by simp [RowKit.intOf]; omega⟩
          · obtain rfl : k = mn := by omega
            have HEN : Sl (x.steps i ++ stepsL qf pl ql k = x.steps (i + 1)) := ⟨by
              rw [Mx.steps, HRK.out.1, HRK.out.2.1, HRK.out.2.2]
              have e1 : pl.length = pn := (HIW.out _ HK.out.2).1.1
              have e2 : ql.length = qn := (HIW.out _ HK.out.2).2.1.1
              rw [e1, e2, HMN.out]⟩
            have hko := HK.out.1
            rw [HEN.out] at hko
            have HKO : Sl _ := ⟨hko⟩
            clear hko
            have hi13 : (i1 : Int) ≤ 12 := by omega
            have hmn := HMN.out
            by_cases hkp : k < pn
            · have hkI2 : (k : Int) < (pn : Int) := by omega
              have hkd2 : decide ((k : Int) < (pn : Int)) = true := decide_eq_true hkI2
              have hkI3 : ¬ (k : Int) < (qn : Int) := by omega
              have hkd3 : decide ((k : Int) < (qn : Int)) = false := decide_eq_false hkI3
              clear hmn
              go_wp2_with fail
              exact ⟨⟨i + 1, v, _, _, _, him, by have := HI1.out; congr 1; omega, rfl, rfl, rfl, rfl, ⟨HKO.out, HK.out.2⟩⟩, by have := HI1.out; simp [RowKit.intOf]; omega⟩
            · have hkI2 : ¬ (k : Int) < (pn : Int) := by omega
              have hkd2 : decide ((k : Int) < (pn : Int)) = false := decide_eq_false hkI2
              clear hmn
              go_wp2_with fail
              exact ⟨⟨i + 1, v, _, _, _, him, by have := HI1.out; congr 1; omega, rfl, rfl, rfl, rfl, ⟨HKO.out, HK.out.2⟩⟩, by have := HI1.out; simp [RowKit.intOf]; omega⟩
      · obtain rfl : i = m := by omega
        obtain ⟨A2, c2, rfl, hrd⟩ := own_slice2 HK.out.1
        have HRD : Sl _ := ⟨hrd⟩
        clear hrd
        go_wp2_with fail
        go_ret2
        have e : x.stps = x.steps i := by unfold Mx.stps; rw [if_pos HCH.out, HXN.out, Nat.add_sub_cancel]
        exact ⟨⟨A2, c2, by rw [e, HCH.out]; rfl, by rw [e]; exact HRD.out⟩, HU.out.trans (HK.out.2.mono HU.out.size)⟩
  · have h0b : (r != 0) = true := by simpa using h0
    have H0 : Sl _ := ⟨h0⟩
    go_wp2_with fail
    go_ret2
    exact ⟨StpR.bad HR.out H0.out, HU.out⟩
end Go.Proofs.YtkjkbhkcebbjdaaGreatDoor
