/- Package mixtures: Steps. -/
import Derived.Test.YtkjkbhkcebbjdaaGreatDoorMzF
import Derived.Deep.RegionHeld3
namespace Go.Proofs.YtkjkbhkcebbjdaaGreatDoor
set_option linter.unusedSimpArgs false
open Go.RowKit
set_option linter.unusedVariables false

/-- the steps -/
def Mx.stps (x : Mx) : List (Int × Nat × Int) := if x.chk = 0 then x.steps (x.n - 1) else []
def sC (p : Int × Nat × Int) : List Value := [.int .i64 p.1, .int .i64 (p.2.1 : Int), .int .i64 p.2.2]
/-- what Steps tells -/
def StpR (x : Mx) (e : Ending) (w' : World) : Prop := ∃ A c, e = .returned (.tuple #[.slice A x.stps.length c, .int .i64 x.chk]) ∧ Reads w' w'.heap.size 3 A x.stps.length (x.stps.flatMap sC)
theorem StpR.bad {x : Mx} {r : Int} {w' : World} (h : x.chk = r) (h0 : r ≠ 0) : StpR x (.returned (.tuple #[.slice none 0 0, .int .i64 r])) w' := by
  have e : x.stps = [] := by unfold Mx.stps; rw [if_neg (by rw [h]; exact h0)]
  exact ⟨none, 0, by rw [e, h]; rfl, by rw [e]; exact Reads.none_⟩
theorem stepsL_len (key : Int) (p q : List Int) : ∀ k, (stepsL key p q k).length ≤ k
  | 0 => Nat.le_refl _
  | k+1 => by
    rw [stepsL]
    have := stepsL_len key p q k
    split
    · omega
    · rw [List.length_append]; simp; omega
theorem Mx.Fine.steps_len {x : Mx} (h : x.Fine) : ∀ i, i + 1 ≤ x.n → (x.steps i).length ≤ 8 * i
  | 0, _ => Nat.le_refl _
  | i+1, hi => by
    rw [Mx.steps, List.length_append]
    have h1 := h.steps_len i (by omega)
    have h2 := stepsL_len (x.fr (i + 1)) (x.rk i) (x.rk (i + 1)) (min (x.rk i).length (x.rk (i + 1)).length)
    have h3 := h.k1 i (by omega)
    have : min (x.rk i).length (x.rk (i + 1)).length ≤ 8 := by omega
    omega
theorem infoStp : ∃ (i : TypeInfo) (z : Value), Tryz.prog.info? 51 = some i ∧ i.zero = some z ∧ i.size = 3 ∧ i.bytes = 24 ∧ z.cells.size = 3 := by
  have h : (Tryz.prog.info? 51).isSome = true := by kernel_rfl
  obtain ⟨i, hi⟩ := Option.isSome_iff_exists.1 h
  have h1 : (Tryz.prog.info? 51).bind (·.zero) = some (.agg #[.int .i64 0, .int .i64 0, .int .i64 0]) := by kernel_rfl
  have h2 : (Tryz.prog.info? 51).map (·.size) = some 3 := by kernel_rfl
  have h3 : (Tryz.prog.info? 51).map (·.bytes) = some 24 := by kernel_rfl
  rw [hi] at h1 h2 h3
  exact ⟨i, _, hi, by simpa using h1, by simpa using h2, by simpa using h3, rfl⟩
set_option maxHeartbeats 12800000 in
set_option maxRecDepth 100000 in
theorem Steps_any (a b : Int) (A : Option Addr) (n c : Nat) (L : List Bk) (w : World) (hM : MXA w A n c L) (ha : i64 a) (hb : i64 b) :
    Calls Tryz.prog 18 #[.agg #[.int .i64 a, .int .i64 b, .slice A n c]] w fun e w' => StpR (mxO a b L) e w' ∧ Below w.heap.size w w' := by
  have HU : Sl (Below w.heap.size w (w.alloc (.cells #[.int .i64 a, .int .i64 b, .slice A n c] 24))) := ⟨(Below.refl _ _).alloc (Nat.le_refl _) _⟩
  have HBK : Sl _ := ⟨Blk.new w 24 #[.int .i64 a, .int .i64 b, .slice A n c]⟩
  have HM : Sl _ := ⟨hM.below HU.out⟩
  have HCK : Sl _ := ⟨Check_any a b A n c L _ HM.out ha hb⟩
  have HL : Sl (L.length = n) := ⟨hM.mx.len⟩
  clear hM ha hb
  obtain ⟨i2, z2, hi0, hz0, hz1, hz2, hz3⟩ := infoStp
  have HI : Sl _ := ⟨And.intro hi0 (And.intro hz0 (And.intro hz1 (And.intro hz2 hz3)))⟩
  clear hi0 hz0 hz1 hz2 hz3
  obtain ⟨x, hx⟩ : ∃ x, mxO a b L = x := ⟨_, rfl⟩
  rw [hx] at HCK ⊢
  have HX : Sl _ := ⟨hx⟩
  clear hx
  obtain ⟨r, hr⟩ : ∃ r, x.chk = r := ⟨_, rfl⟩
  rw [hr] at HCK
  have HR : Sl _ := ⟨hr⟩
  clear hr
  go_enter Tryz.func18, Tryz.ntmps18
  go_wp2_with fail
  generalize w.alloc (.cells #[.int .i64 a, .int .i64 b, .slice A n c] 24) = w0 at *
  refine HCK.out.mono ?_; rintro e w1 ⟨rfl, hb⟩
  replace HU : Sl (Below w.heap.size w w1) := ⟨HU.out.trans (hb.mono HU.out.size)⟩
  replace HBK : Sl (Blk w1 w.heap.size _ _) := ⟨HBK.out.below hb HBK.out.lt⟩
  replace HM : Sl (MXA w1 A n c L) := ⟨HM.out.below hb⟩
  clear hb HCK
  by_cases h0 : r = 0
  · have h0b : (r != 0) = false := by rw [h0]; rfl
    have HCH : Sl (x.chk = 0) := ⟨by rw [HR.out, h0]⟩
    have HF : Sl x.Fine := ⟨Mx.fine (Mx.chk_ok HCH.out).1⟩
    have HXN : Sl (x.n = n) := ⟨by rw [← HX.out, mxO_n, HL.out]⟩
    clear HR
    have hn1 : 0 < n ∧ n ≤ 12 := by have h1 := HF.out.ord.pos; have h2 := HF.out.n1; rw [HXN.out] at h1 h2; exact ⟨h1, h2⟩
    have hcap := HM.out.cap
    obtain ⟨m, hm⟩ : ∃ m, n = m + 1 := ⟨n - 1, by omega⟩
    subst hm
    obtain ⟨gb, o, hA, hgb⟩ : ∃ gb o, A = some ⟨gb, o, none⟩ ∧ gb < w1.heap.size := by
      obtain ⟨bk, hbk⟩ : ∃ bk, L[0]? = some bk := ⟨_, List.getElem?_eq_getElem (by rw [HL.out]; omega)⟩
      obtain ⟨ad, e, h1, h2, _⟩ := HM.out.mx.cells hbk
      obtain ⟨gb, o, sp⟩ := ad
      have : sp = none := by
        cases sp with
        | none => rfl
        | some s =>
          unfold World.cell? at h2
          simp [Addr.add] at h2
          split at h2
          · cases h2
          · cases h2
      subst this
      exact ⟨gb, o, e, h1⟩
    subst hA
    have HCE : Sl (∀ (W : World) (i : Nat) (q : Bk), Below w1.heap.size w1 W → L[i]? = some q → W.cell? ⟨gb, o + i * 2, none⟩ = some (.int .i64 q.fr) ∧ W.cell? ⟨gb, o + i * 2 + 1, none⟩ = some (.slice q.A q.n q.c) ∧ II W q.A q.n q.l) := ⟨fun W i q h hq => by
      obtain ⟨ad, e, _, h1, h2⟩ := (HM.out.below h).mx.cells hq
      injection e with e
      subst e
      have e : ∀ k : Nat, (⟨gb, o, none⟩ : Addr).add k = ⟨gb, o + k, none⟩ := fun k => by
        unfold Addr.add
        by_cases h : k = 0
        · subst h; simp
        · simp [h]
      rw [e] at h1 h2
      exact ⟨h1, h2, (HM.out.below h).mx.rk q (List.mem_of_getElem? hq)⟩⟩
    have cc2 := HBK.out.cell 2
    simp at cc2
    have hm12 : m ≤ 11 := by omega
    by_cases hc1 : c = 1
    · have hm0 : m = 0 := by omega
      subst hm0 hc1
      go_wp2_with fail
      refine Go.wp_loop_rounds 1 ?_
      rw [Go.rounds_succ]
      go_wp2_with fail
      go_ret2
      have e : x.stps = [] := by unfold Mx.stps; rw [if_pos HCH.out, HXN.out]; rfl
      exact ⟨⟨none, 0, by rw [e, HCH.out]; rfl, by rw [e]; exact Reads.none_⟩, HU.out⟩
    · have hc2 : ¬ c = 1 := hc1
      go_wp2_with fail
      go_loopw [5, 6, 7, 8, 9, 10, 20] (fun s5 s6 s7 s8 s9 s10 s20 wr => ∃ (i : Nat) (v v6 v7 v8 v9 v10 : Value), i ≤ m ∧ s20 = .int .i64 i ∧ v = s5 ∧ s6 = v6 ∧ s7 = v7 ∧ s8 = v8 ∧ s9 = v9 ∧ s10 = v10 ∧ Sl (wr.ownsRow w1.heap.size 51 3 v (x.steps i).length ((x.steps i).flatMap sC) ∧ Below w1.heap.size w1 wr)) (fun _ _ _ _ _ _ s20 _ => m - (RowKit.intOf s20).toNat)
      case atStart => exact ⟨0, _, _, _, _, _, _, Nat.zero_le _, rfl, rfl, rfl, rfl, rfl, rfl, rfl, ⟨World.ownsRow_nil _ _ _ _, Below.refl _ _⟩⟩
      case round =>
        obtain ⟨i, v, v6, v7, v8, v9, v10, hi, rfl, rfl, rfl, rfl, rfl, rfl, rfl, HK⟩ := hrel
        clear cc2
        by_cases him : i < m
        · obtain ⟨p, hp⟩ : ∃ p, L[i]? = some p := ⟨_, List.getElem?_eq_getElem (by rw [HL.out]; omega)⟩
          obtain ⟨q, hq⟩ : ∃ q, L[i + 1]? = some q := ⟨_, List.getElem?_eq_getElem (by rw [HL.out]; omega)⟩
          have HBW : Sl (Below wr.heap.size wr (wr.alloc (.cells #[.int .i64 q.fr, .slice q.A q.n q.c] 49))) := ⟨(Below.refl _ _).alloc (Nat.le_refl _) _⟩
          have HWQ : Sl (Below w1.heap.size w1 (wr.alloc (.cells #[.int .i64 q.fr, .slice q.A q.n q.c] 49))) := ⟨HK.out.2.trans (HBW.out.mono HK.out.2.size)⟩
          obtain ⟨_, p2, hip⟩ := HCE.out _ i p HWQ.out hp
          obtain ⟨q1, q2, _⟩ := HCE.out wr (i + 1) q HK.out.2 hq
          obtain ⟨_, _, hiq⟩ := HCE.out _ (i + 1) q HWQ.out hq
          rw [show o + (i + 1) * 2 = o + 2 + i * 2 by omega] at q1 q2
          have HRK : Sl (x.fr (i + 1) = q.fr ∧ x.rk i = p.l ∧ x.rk (i + 1) = q.l) := ⟨by rw [← HX.out]; exact ⟨(mxO_at hq).1, (mxO_at hp).2, (mxO_at hq).2⟩⟩
          have HIP : Sl _ := ⟨hip⟩
          have HIQ : Sl _ := ⟨hiq⟩
          have hp8 : p.n ≤ 8 := by have := HF.out.k1 i (by rw [HXN.out]; omega); rw [HRK.out.2.1, hip.1] at this; exact this
          have hq8 : q.n ≤ 8 := by have := HF.out.k1 (i + 1) (by rw [HXN.out]; omega); rw [HRK.out.2.2, hiq.1] at this; exact this
          have HPB : Sl (∀ j, j < p.n → -24 ≤ gt p.l j ∧ gt p.l j ≤ 72) := ⟨fun j hj => by have := HF.out.rg i (by rw [HXN.out]; omega) j (by rw [HRK.out.2.1, hip.1]; exact hj); rw [HRK.out.2.1] at this; exact this⟩
          have HQB : Sl (∀ j, j < q.n → -24 ≤ gt q.l j ∧ gt q.l j ≤ 72) := ⟨fun j hj => by have := HF.out.rg (i + 1) (by rw [HXN.out]; omega) j (by rw [HRK.out.2.2, hiq.1]; exact hj); rw [HRK.out.2.2] at this; exact this⟩
          have HSL : Sl ((x.steps i).length ≤ 100) := ⟨by have := HF.out.steps_len i (by rw [HXN.out]; omega); omega⟩
          have hqc : q.n ≤ q.c := ((HM.out.below HK.out.2).rc q (List.mem_of_getElem? hq)).1
          have HIW : Sl (∀ W, Below w1.heap.size w1 W → II W p.A p.n p.l ∧ II W q.A q.n q.l) := ⟨fun W h => ⟨(HCE.out W i p h hp).2.2, (HCE.out W (i + 1) q h hq).2.2⟩⟩
          clear hip hiq hp hq
          obtain ⟨pf, PA, pn, pc, pl⟩ := p
          obtain ⟨qf, QA, qn, qc, ql⟩ := q
          simp only [] at p2 q1 q2 HRK HIW HIP HIQ hp8 hq8 HPB HQB hqc HBW HWQ
          have XN : Sl (Blk (wr.alloc (.cells #[.int .i64 qf, .slice QA qn qc] 49)) wr.heap.size 49 #[.int .i64 qf, .slice QA qn qc]) := ⟨Blk.new _ _ _⟩
          have hiI : (i : Int) < (m : Int) := by omega
          have hiI2 : (i : Int) < (m : Int) + 1 := by omega
          have him2 : i < m + 1 := by omega
          have cc2 := (HBK.out.below HWQ.out HBK.out.lt).cell 2
          simp at cc2
          obtain ⟨mn, hmn⟩ : ∃ mn, min pn qn = mn := ⟨_, rfl⟩
          have hmi : min (pn : Int) (qn : Int) = (mn : Int) := by rw [← hmn]; omega
          have hmq : mn ≤ qn := by omega
          have hmp : mn ≤ pn := by omega
          have HMN : Sl _ := ⟨hmn⟩
          clear hmn
          go_wp2_with fail
          have HOQ : Sl ((wr.alloc (.cells #[.int .i64 qf, .slice QA qn qc] 49)).ownsRow w1.heap.size 51 3 v (x.steps i ++ stepsL qf pl ql 0).length ((x.steps i ++ stepsL qf pl ql 0).flatMap sC)) := ⟨by rw [stepsL, List.append_nil]; exact xown_alloc HK.out.1 _⟩
          generalize wr.alloc (.cells #[.int .i64 qf, .slice QA qn qc] 49) = wq at *
          obtain ⟨g7, hg7⟩ : ∃ g7, wr.heap.size = g7 := ⟨_, rfl⟩
          rw [hg7] at XN
          rw [hg7]
          clear hg7 HBW HK cc2 p2 q1 q2 HIP HIQ
          go_loopw [5, 9, 10, 41] (fun s5 s9 s10 s41 wr => ∃ (k : Nat) (v v9 v10 : Value), k ≤ mn ∧ s41 = .int .i64 k ∧ v = s5 ∧ s9 = v9 ∧ s10 = v10 ∧ Sl (wr.ownsRow w1.heap.size 51 3 v (x.steps i ++ stepsL qf pl ql k).length ((x.steps i ++ stepsL qf pl ql k).flatMap sC) ∧ Below w1.heap.size w1 wr ∧ Blk wr g7 49 #[.int .i64 qf, .slice QA qn qc])) (fun _ _ _ s41 _ => mn - (RowKit.intOf s41).toNat)
          case atStart => exact ⟨0, _, _, _, Nat.zero_le _, rfl, rfl, rfl, rfl, ⟨HOQ.out, HWQ.out, XN.out⟩⟩
          case round =>
            clear HOQ HWQ XN
            obtain ⟨k, v, v9, v10, hkm, rfl, rfl, rfl, rfl, HK⟩ := hrel
            by_cases hkn : k < mn
            · obtain ⟨hip, hiq⟩ := HIW.out wr HK.out.2.1
              obtain ⟨ap, hap, _, cp⟩ := hip.cell (j := k) (by omega)
              obtain ⟨aq, haq, _, cq⟩ := hiq.cell (j := k) (by omega)
              subst hap haq
              have hzp := HPB.out k (by omega)
              have hzq := HQB.out k (by omega)
              obtain ⟨zp, hp⟩ : ∃ z, gt pl k = z := ⟨_, rfl⟩
              obtain ⟨zq, hq⟩ : ∃ z, gt ql k = z := ⟨_, rfl⟩
              rw [hp] at cp hzp
              rw [hq] at cq hzq
              have HPQ : Sl _ := ⟨And.intro hp hq⟩
              have HST : Sl (stepsL qf pl ql (k + 1) = if zq = zp then stepsL qf pl ql k else stepsL qf pl ql k ++ [(qf, k, zq - zp)]) := ⟨by rw [stepsL, hp, hq]⟩
              have hkI : (k : Int) < (mn : Int) := by omega
              have hkI2 : (k : Int) < (pn : Int) := by omega
              have hkn2 : k < pn := by omega
              have hkn3 : k < qn := by omega
              clear hp hq hip hiq
              by_cases hz : zq = zp
              · have hzb : (zq != zp) = false := by rw [hz]; simp
                have HSE : Sl (stepsL qf pl ql (k + 1) = stepsL qf pl ql k) := ⟨by rw [HST.out, if_pos hz]⟩
                subst hz
                go_wp2_with fail
                exact ⟨⟨k + 1, v, _, _, hkn, by go_num, rfl, rfl, rfl, ⟨by rw [HSE.out]; exact HK.out.1, HK.out.2⟩⟩, by simp [RowKit.intOf]; omega⟩
              · have hzb : (zq != zp) = true := by simpa using hz
                have HSE : Sl (x.steps i ++ stepsL qf pl ql (k + 1) = (x.steps i ++ stepsL qf pl ql k) ++ [(qf, k, zq - zp)]) := ⟨by rw [HST.out, if_neg hz, List.append_assoc]⟩
                have hw : IntKind.i64.wrap (zq - zp) = zq - zp := by rw [IntKind.wrap_i64]; omega
                have hsl := stepsL_len qf pl ql k
                have hsi := HSL.out
                obtain ⟨nd, hnd⟩ : ∃ nd, (x.steps i ++ stepsL qf pl ql k).length = nd := ⟨_, rfl⟩
                have hnd2 : nd ≤ 200 := by rw [← hnd, List.length_append]; omega
                have HND : Sl _ := ⟨hnd⟩
                have hko := HK.out.1
                rw [hnd] at hko
                have HKO : Sl _ := ⟨hko⟩
                clear hnd hko hsl hsi hz
                go_wp2_with fail
                have c70 : wr.drew.cell? ⟨g7, 0, none⟩ = some (.int .i64 qf) := HK.out.2.2.cell 0
                have cpd : wr.drew.cell? (ap.add k) = some (.int .i64 zp) := cp
                have HOA : Sl ((wr.drew.alloc (.cells #[.int .i64 qf, .int .i64 (k : Int), .int .i64 (zq - zp)] 51)).ownsRow w1.heap.size 51 3 v nd ((x.steps i ++ stepsL qf pl ql k).flatMap sC)) := ⟨xown_alloc (w := wr.drew) HKO.out _⟩
                have hsd : RowKit.Below w1.heap.size w1 wr.drew := below_drewN HK.out.2.1 1
                have hsa := hsd.alloc hsd.size (.cells #[.int .i64 qf, .int .i64 (k : Int), .int .i64 (zq - zp)] 51)
                have HSA : Sl _ := ⟨hsa⟩
                have hb7 : Blk (wr.drew.alloc (.cells #[.int .i64 qf, .int .i64 (k : Int), .int .i64 (zq - zp)] 51)) g7 49 #[.int .i64 qf, .slice (some aq) qn qc] := Blk.alloc (w := wr.drew) HK.out.2.2 _
                have HB7 : Sl _ := ⟨hb7⟩
                have c70a : (wr.drew.alloc (.cells #[.int .i64 qf, .int .i64 (k : Int), .int .i64 (zq - zp)] 51)).cell? ⟨g7, 0, none⟩ = some (.int .i64 qf) := hb7.cell 0
                have cpa : (wr.drew.alloc (.cells #[.int .i64 qf, .int .i64 (k : Int), .int .i64 (zq - zp)] 51)).cell? (ap.add k) = some (.int .i64 zp) := by
                  obtain ⟨hip, _⟩ := HIW.out _ HSA.out
                  obtain ⟨ap2, e, _, c⟩ := hip.cell (j := k) hkn2
                  injection e with e
                  subst e
                  rw [HPQ.out.1] at c
                  exact c
                clear hsa hb7 hsd
                go_region_held3 (fun w' : World => w'.cell? ⟨g7, 0, none⟩ = some (.int .i64 qf) ∧ w'.cell? (ap.add k) = some (.int .i64 zp))
                  (first | exact ⟨by assumption, by assumption⟩ | go_keep | fail)
                  ((refine step_append_any _ (by rfl) _ _ _ (by rfl) w1.heap.size 51 i2 z2 3 24 Tryz.underlying43 HI.out.1 HI.out.2.1 HI.out.2.2.1 HI.out.2.2.2.1 HI.out.2.2.2.2 (by decide) v nd _ (by rfl) HOA.out _ (some ⟨wr.heap.size, 0, none⟩) 1 1 [.int .i64 qf, .int .i64 (k : Int), .int .i64 (zq - zp)] (by rfl) (xreadsN wr.drew 51 [.int .i64 qf, .int .i64 (k : Int), .int .i64 (zq - zp)] 3 rfl) (by intro u hu; simp at hu; rcases hu with rfl | rfl | rfl <;> rfl) (by unfold maxLen; omega) (by omega) HSA.out.size ?_; intro v1 w3 hown1 hg1 hat1; have hs3 := HSA.out.grown hg1 HSA.out.size (fun k hk => (HOA.out.lt k hk).1); have HB3 : Sl (Blk w3 g7 49 #[.int .i64 qf, .slice (some aq) qn qc]) := ⟨HB7.out.grown hg1 (fun e => own_blk_ne HOA.out HB7.out (by decide) e.symm)⟩; have c70b : w3.cell? ⟨g7, 0, none⟩ = some (.int .i64 qf) := HB3.out.cell 0; have cpb : w3.cell? (ap.add k) = some (.int .i64 zp) := (by obtain ⟨hip, _⟩ := HIW.out _ hs3; obtain ⟨ap2, e, _, c⟩ := hip.cell (j := k) hkn2; injection e with e; subst e; rw [HPQ.out.1] at c; exact c)))
                have XQ : Sl (w3.ownsRow w1.heap.size 51 3 v1 (x.steps i ++ stepsL qf pl ql (k + 1)).length ((x.steps i ++ stepsL qf pl ql (k + 1)).flatMap sC)) := ⟨by rw [HSE.out, List.flatMap_append, List.length_append, HND.out]; exact hown1⟩
                have HS3 : Sl _ := ⟨hs3⟩
                clear hown1 hg1 hat1 hs3 c70 cpd c70a cpa c70b cpb
                go_wp2_with fail
                exact ⟨⟨k + 1, v1, _, _, hkn, by go_num, rfl, rfl, rfl, ⟨XQ.out, HS3.out, HB3.out⟩⟩, by simp [RowKit.intOf]; omega⟩
            · obtain rfl : k = mn := by omega
              have HEN : Sl (x.steps i ++ stepsL qf pl ql k = x.steps (i + 1)) := ⟨by
                rw [Mx.steps, HRK.out.1, HRK.out.2.1, HRK.out.2.2]
                have e1 : pl.length = pn := (HIW.out _ HK.out.2.1).1.1
                have e2 : ql.length = qn := (HIW.out _ HK.out.2.1).2.1
                rw [e1, e2, HMN.out]⟩
              have hko := HK.out.1
              rw [HEN.out] at hko
              have HKO : Sl _ := ⟨hko⟩
              clear hko
              go_wp2_with fail
              exact ⟨⟨i + 1, v, _, _, _, _, _, him, by go_num, rfl, rfl, rfl, rfl, rfl, rfl, ⟨HKO.out, HK.out.2.1⟩⟩, by simp [RowKit.intOf]; omega⟩
        · obtain rfl : i = m := by omega
          obtain ⟨A2, c2, rfl, hrd⟩ := own_slice2 HK.out.1
          have HRD : Sl _ := ⟨hrd⟩
          clear hrd
          go_wp2_with fail
          go_ret2
          have e : x.stps = x.steps i := by unfold Mx.stps; rw [if_pos HCH.out, HXN.out, Nat.add_sub_cancel]
          exact ⟨⟨A2, c2, by rw [e, HCH.out]; rfl, by rw [e]; exact HRD.out⟩, HU.out.trans (HK.out.2.mono HU.out.size)⟩
  · have h0b : (r != 0) = true := by simpa using h0
    have H0 : Sl _ := ⟨h0⟩
    go_wp2_with fail
    go_ret2
    exact ⟨StpR.bad HR.out H0.out, HU.out⟩
end Go.Proofs.YtkjkbhkcebbjdaaGreatDoor
