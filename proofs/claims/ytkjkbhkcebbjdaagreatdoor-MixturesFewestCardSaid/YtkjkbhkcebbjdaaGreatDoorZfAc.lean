/- The law MixturesFewest walks to true. -/
import Derived.Test.YtkjkbhkcebbjdaaGreatDoorZfAb
import Derived.Test.YtkjkbhkcebbjdaaGreatDoorMzA
namespace Go.Proofs.YtkjkbhkcebbjdaaGreatDoor
set_option linter.unusedSimpArgs false
open Go.RowKit
set_option linter.unusedVariables false
def metB (q : List Int) (early du : Int) (k : Nat) : Bool := anyN k fun j => decide (gt q j ≤ du) && decide (du - early ≤ gt q j)
def PD (f : Int) (q : List Int) (early : Int) (n : Nat) (du : Int) : Prop := du - early ≤ f ∨ metB q early du n = true
theorem metB_succ {q : List Int} {early du z : Int} {k : Nat} {b : Bool} (hb : b = metB q early du k) (hz : gt q k = z) : metB q early du (k + 1) = (b || (decide (z ≤ du) && decide (du - early ≤ z))) := by
  unfold metB at hb ⊢; rw [anyN, ← hb, hz]
theorem pl_found {f u : Int} {l : List Int} {most early : Int} (H : PlH f u l most early) {q : List Int} (hq : q.length < (plO f u l most early).length - 1) (h : ∀ r, r < l.length → ∀ s : Nat, most - gt l r + 1 + 12 * (s : Int) ≤ u → PD f q early q.length (most - gt l r + 1 + 12 * (s : Int))) : False := by
  obtain ⟨d, hd, h1, h2⟩ := pl_unmet H hq; obtain ⟨g1, s, g2, g3⟩ := lwA_mem.1 hd; have g4 := h d.1 g1 s (by omega); rw [← g2] at g4; rcases g4 with g4 | g4
  · omega
  · unfold metB at g4; rw [anyN_iff] at g4; obtain ⟨j, hj, g5⟩ := g4; rw [Bool.and_eq_true] at g5; have a1 := of_decide_eq_true g5.1; have a2 := of_decide_eq_true g5.2; exact h2 _ (gt_mem2 hj) ⟨a2, a1⟩
set_option maxHeartbeats 12800000 in
set_option maxRecDepth 100000 in
theorem mixturesFewest_any (f u : Int) (A : Option Addr) (n c : Nat) (l : List Int) (most early : Int) (A2 : Option Addr) (n2 d2 : Nat) (q : List Int) (w : World) (hl : II w A n l) (hc : n ≤ c ∧ c ≤ maxLen) (hzi : ∀ z ∈ l, i64 z) (hf : i64 f) (hu : i64 u) (hm : i64 most) (he : i64 early) (hq : II w A2 n2 q) (hd2 : n2 ≤ d2 ∧ d2 ≤ maxLen) (hqi : ∀ z ∈ q, i64 z) :
    Calls Tryz.prog 5 #[.agg #[.int .i64 f, .int .i64 u, .slice A n c, .int .i64 most, .int .i64 early], .slice A2 n2 d2] w fun e w' => e = .returned (.bool true) ∧ Below w.heap.size w w' := by
  have HU : Sl (Below w.heap.size w (w.alloc (.cells #[.int .i64 f, .int .i64 u, .slice A n c, .int .i64 most, .int .i64 early] 34))) := ⟨(Below.refl _ _).alloc (Nat.le_refl _) _⟩; have HBK : Sl _ := ⟨Blk.new w 34 #[.int .i64 f, .int .i64 u, .slice A n c, .int .i64 most, .int .i64 early]⟩; have HL : Sl _ := ⟨hl.below HU.out⟩; have HQ : Sl _ := ⟨hq.below HU.out⟩; have HLN : Sl (l.length = n ∧ q.length = n2) := ⟨hl.1, hq.1⟩; have HP1 : Sl _ := ⟨fun (W : World) (h : II W A n l) => tPlan_any f u A n c l most early W h hc hzi hf hu hm he⟩; have HFU : Sl (i64 f ∧ i64 u) := ⟨hf, hu⟩; have hn2m : (n2 : Int) ≤ 9223372036854775807 := (by have := hd2; unfold maxLen at this; omega); have HN2 : Sl ((n2 : Int) ≤ 9223372036854775807) := ⟨hn2m⟩; have HAW : Sl (∀ W : World, Below w.heap.size w W → Calls Tryz.prog 13 #[] W fun e w' => e = .returned (.bool true) ∧ Below w.heap.size w w') := ⟨fun W h => (awake11_any W).mono fun e w' g => ⟨g.1, h.trans (g.2.mono h.size)⟩⟩; clear hl hc hzi hf hu hm he hq hd2 hqi hn2m; go_enter Tryz.func5, Tryz.ntmps5; go_wp2_with fail; generalize w.alloc (.cells #[.int .i64 f, .int .i64 u, .slice A n c, .int .i64 most, .int .i64 early] 34) = w0 at *
  refine (HP1.out w0 HL.out).mono ?_; rintro e w1 ⟨hp, hb⟩; have HU1 : Sl (Below w.heap.size w w1) := ⟨HU.out.trans (hb.mono HU.out.size)⟩; rcases hp with ⟨h0, A1, c1, L1, rfl, hm1, ht1⟩ | ⟨h0, rfl⟩
  · have H : Sl _ := ⟨plE_ok h0⟩; obtain ⟨m1, hmm⟩ : ∃ m, L1.length = m := ⟨_, rfl⟩; have HML : Sl (L1.length = m1 ∧ (plO f u l most early).length = m1) := ⟨hmm, by rw [← ht1, List.length_map]; exact hmm⟩; have HT1 : Sl _ := ⟨ht1⟩; rw [hmm] at hm1 ⊢; have HB1 : Sl (Below w1.heap.size w1 (w1.alloc (.cells #[.int .i64 f, .int .i64 u, .slice A1 m1 c1] 24))) := ⟨(Below.refl _ _).alloc (Nat.le_refl _) _⟩; have HU2 : Sl (Below w.heap.size w (w1.alloc (.cells #[.int .i64 f, .int .i64 u, .slice A1 m1 c1] 24))) := ⟨HU1.out.trans (HB1.out.mono HU1.out.size)⟩; have HM2 : Sl (MXA (w1.alloc (.cells #[.int .i64 f, .int .i64 u, .slice A1 m1 c1] 24)) A1 m1 c1 L1) := ⟨hm1.below HB1.out⟩; have hk := (HBK.out.below hb HBK.out.lt).alloc (.cells #[.int .i64 f, .int .i64 u, .slice A1 m1 c1] 24); have HK2 : Sl _ := ⟨hk⟩; have HX2 : Sl _ := ⟨Blk.new w1 24 #[.int .i64 f, .int .i64 u, .slice A1 m1 c1]⟩; have HL2 : Sl (II (w1.alloc (.cells #[.int .i64 f, .int .i64 u, .slice A1 m1 c1] 24)) A n l) := ⟨(HL.out.below hb).below HB1.out⟩; have HQ2 : Sl (II (w1.alloc (.cells #[.int .i64 f, .int .i64 u, .slice A1 m1 c1] 24)) A2 n2 q) := ⟨(HQ.out.below hb).below HB1.out⟩; clear h0 hm1 ht1 hb hmm hk HU HBK HL HQ HP1; go_wp2_with fail; obtain ⟨g1, hg1⟩ : ∃ g, w1.heap.size = g := ⟨_, rfl⟩; rw [hg1]; rw [hg1] at HX2; generalize w1.alloc (.cells #[.int .i64 f, .int .i64 u, .slice A1 m1 c1] 24) = w2 at *
    clear hg1 HB1 HU1
    have HS : Sl (∀ W : World, Below w2.heap.size w2 W → (W.cell? ⟨w.heap.size, 0, none⟩ = some (.int .i64 f) ∧ W.cell? ⟨w.heap.size, 1, none⟩ = some (.int .i64 u) ∧ W.cell? ⟨w.heap.size, 2, none⟩ = some (.slice A n c) ∧ W.cell? ⟨w.heap.size, 3, none⟩ = some (.int .i64 most) ∧ W.cell? ⟨w.heap.size, 4, none⟩ = some (.int .i64 early)) ∧ W.cell? ⟨g1, 0, none⟩ = some (.int .i64 f) ∧ W.cell? ⟨g1, 1, none⟩ = some (.int .i64 u) ∧ W.cell? ⟨g1, 2, none⟩ = some (.slice A1 m1 c1)) := ⟨fun W h => by
      have e1 := HK2.out.below h HK2.out.lt; have e2 := HX2.out.below h HX2.out.lt
      exact ⟨⟨by rw [e1.cell]; rfl, by rw [e1.cell]; rfl, by rw [e1.cell]; rfl, by rw [e1.cell]; rfl, by rw [e1.cell]; rfl⟩, by rw [e2.cell]; rfl, by rw [e2.cell]; rfl, by rw [e2.cell]; rfl⟩⟩
    have HCK : Sl _ := ⟨rCheck_any f u A1 m1 c1 L1 w2 HM2.out HFU.out.1 HFU.out.2⟩; rw [pl_chk0 H.out HT1.out] at HCK; obtain ⟨⟨x0, x1, x2, x3, x4⟩, y0, y1, y2⟩ := HS.out w2 (Below.refl _ _); go_wp2_with fail; refine HCK.out.mono ?_; rintro e w3 ⟨rfl, hb⟩; have HB3 : Sl (Below w2.heap.size w2 w3) := ⟨hb⟩; clear hb x0 x1 x2 x3 x4 y0 y1 y2 HCK; obtain ⟨⟨x0, x1, x2, x3, x4⟩, y0, y1, y2⟩ := HS.out w3 HB3.out; have hem := H.out.e; have hmo := H.out.m; have hcf := H.out.c; have hn8 : 0 < n ∧ n ≤ 8 := (by have := H.out.n; rw [HLN.out.1] at this; exact this); have d1 : decide (most < 0) = false := decide_eq_false (by omega); have d2' : decide (139 < most) = false := decide_eq_false (by omega); have d3 : decide (early < 0) = false := decide_eq_false (by omega); have d4 : decide (11 < early) = false := decide_eq_false (by omega); go_wp2_with fail; clear x0 x1 x2 x3 x4 y0 y1 y2 d1 d2' d3 d4
    go_loopw [7, 8, 9] (fun s7 s8 s9 wr => ∃ (k : Nat) (v8 v9 : Value), f + (k : Int) ≤ u + 1 ∧ s7 = .int .i64 (f + (k : Int)) ∧ s8 = v8 ∧ s9 = v9 ∧ Sl (Below w2.heap.size w2 wr)) (fun s7 _ _ _ => (u + 1 - RowKit.intOf s7).toNat)
    case atStart => exact ⟨0, _, _, by omega, by go_num, rfl, rfl, HB3⟩
    case round =>
      clear HB3; obtain ⟨k, v8, v9, hku, rfl, rfl, rfl, HB⟩ := hrel; obtain ⟨⟨x0, x1, x2, x3, x4⟩, y0, y1, y2⟩ := HS.out wr HB.out; obtain ⟨key, hkey⟩ : ∃ key, f + (k : Int) = key := ⟨_, rfl⟩; have HKY : Sl _ := ⟨hkey⟩; rw [hkey]
      by_cases hkl : key ≤ u
      · have hkd : decide (key ≤ u) = true := decide_eq_true hkl; have HRO : Sl _ := ⟨Row_any f u A1 m1 c1 L1 key wr (HM2.out.below HB.out) HFU.out.1 HFU.out.2⟩; have HPR : Sl _ := ⟨pl_row H.out HT1.out (key := key) (by omega) hkl⟩; obtain ⟨ro, hro⟩ : ∃ r, (mxO f u L1).row key = r := ⟨_, rfl⟩; unfold RowR at HRO; rw [HPR.out.1, HPR.out.2.1] at HRO; rw [hro] at HRO HPR; have hrn : ro.length = n := (by rw [HPR.out.2.2.1, HLN.out.1]); rw [hrn] at HRO; have HRN : Sl _ := ⟨hrn⟩; obtain ⟨zt, hzt⟩ : ∃ z, gt ro (n - 1) = z := ⟨_, rfl⟩; have hztm : zt ≤ most := (by rw [← hzt, ← HLN.out.1]; exact HPR.out.2.2.2.1); have HZT : Sl _ := ⟨hzt⟩; have hkb : 0 ≤ key ∧ key ≤ 127 := (by omega); clear hkey hro hrn hzt HPR; go_wp2_with fail; refine HRO.out.mono ?_; rintro e w5 ⟨⟨A5, c5, rfl, hi5⟩, hb⟩; have HB5 : Sl (Below w2.heap.size w2 w5) := ⟨HB.out.trans (hb.mono HB.out.size)⟩; obtain ⟨a5, rfl, _, z5⟩ := hi5.cell (j := n - 1) (by omega); rw [HZT.out] at z5; clear hb hi5 x0 x1 x2 x3 x4 y0 y1 y2 HRO HZT HB; obtain ⟨⟨x0, x1, x2, x3, x4⟩, y0, y1, y2⟩ := HS.out w5 HB5.out; obtain ⟨n1, HN1⟩ : ∃ n1, Sl (n = n1 + 1) := ⟨n - 1, ⟨by omega⟩⟩; have hni : (n : Int) - 1 = (n1 : Int) := (by have := HN1.out; omega); have hnw : IntKind.i64.wrap ((n : Int) - 1) = (n1 : Int) := (by rw [hni, IntKind.wrap_i64]; have := HN1.out; omega); have hn1I : (n1 : Int) < (n : Int) := (by have := HN1.out; omega); rw [show n - 1 = n1 by have := HN1.out; omega] at z5; have hzd : decide (most < zt) = false := decide_eq_false (by omega); go_wp2_with fail
        go_quiet (fail)
        have HB6 : Sl (Below w2.heap.size w2 (w5.drewN nq)) := ⟨below_drewN HB5.out nq⟩; clear HB5 x0 x1 x2 x3 x4 y0 y1 y2 z5; generalize w5.drewN nq = w6 at *
        go_wp2_with fail; exact ⟨⟨k + 1, _, _, by have := HKY.out; omega, by have := HKY.out; congr 1; omega, rfl, rfl, HB6⟩, by have := HKY.out; simp [RowKit.intOf]; omega⟩
      · have hkd : decide (key ≤ u) = false := decide_eq_false hkl; have hn2 := HN2.out; have hm12 : m1 ≤ 12 := (by have := H.out.nb; rw [HML.out.2] at this; exact this)
        have hm1p : 0 < m1 := by
          have h1 := HM2.out.mx.len; have h2 := Mx.fine (pl_chk1 H.out HT1.out); have h3 := h2.ord.pos; have h4 : (mxO f u L1).n = L1.length := rfl; omega
        have hmw : IntKind.i64.wrap ((m1 : Int) - 1) = (m1 : Int) - 1 := (by rw [IntKind.wrap_i64]; omega)
        by_cases h12 : 12 < n2
        · have hd12 : decide ((12 : Int) < (n2 : Int)) = true := decide_eq_true (by omega); have h12I : (12 : Int) < (n2 : Int) := (by omega); go_wp2_with fail; refine (HAW.out _ (HU2.out.trans (HB.out.mono HU2.out.size))).mono ?_; rintro e w9 ⟨rfl, hb⟩; have HB9 : Sl (Below w.heap.size w w9) := ⟨hb⟩; clear hb; go_wp2_with fail; go_ret; exact ⟨rfl, HB9.out⟩
        have hd12 : decide ((12 : Int) < (n2 : Int)) = false := decide_eq_false (by omega); have h12I : ¬ (12 : Int) < (n2 : Int) := (by omega)
        by_cases hge : m1 - 1 ≤ n2
        · have hgd : decide ((m1 : Int) - 1 ≤ (n2 : Int)) = true := decide_eq_true (by omega); have hgI : (m1 : Int) - 1 ≤ (n2 : Int) := (by omega); go_wp2_with fail; refine (HAW.out _ (HU2.out.trans (HB.out.mono HU2.out.size))).mono ?_; rintro e w9 ⟨rfl, hb⟩; have HB9 : Sl (Below w.heap.size w w9) := ⟨hb⟩; clear hb; go_wp2_with fail; go_ret; exact ⟨rfl, HB9.out⟩
        have hgd : decide ((m1 : Int) - 1 ≤ (n2 : Int)) = false := decide_eq_false (by omega); have hgI : ¬ (m1 : Int) - 1 ≤ (n2 : Int) := (by omega); have HFEW : Sl (q.length < (plO f u l most early).length - 1) := ⟨by rw [HLN.out.2, HML.out.2]; omega⟩; have hn212 : n2 ≤ 12 := (by omega); clear hkl hge; go_wp2_with fail
        go_loopw [10] (fun s10 wq => ∃ (i : Nat), i ≤ n ∧ s10 = .int .i64 i ∧ Sl (Below w2.heap.size w2 wq)) (fun s10 _ => n - (RowKit.intOf s10).toNat)
        case atStart => exact ⟨0, Nat.zero_le _, rfl, HB⟩
        case round =>
          clear HB x0 x1 x2 x3 x4 y0 y1 y2; obtain ⟨i, hi, rfl, HB⟩ := hrel; obtain ⟨⟨x0, x1, x2, x3, x4⟩, y0, y1, y2⟩ := HS.out wr HB.out
          by_cases hin : i < n
          · have hiI : (i : Int) < (n : Int) := (by omega); have hid : decide ((i : Int) < (n : Int)) = true := decide_eq_true hiI; obtain ⟨ad, had, _, ci⟩ := (HL2.out.below HB.out).cell (j := i) hin; have hz := H.out.z i (by rw [HLN.out.1]; exact hin); obtain ⟨z, hzz⟩ : ∃ z, gt l i = z := ⟨_, rfl⟩; rw [hzz] at ci hz; have hz1 : decide (z < -24) = false := decide_eq_false (by omega); have hz2 : decide (72 < z) = false := decide_eq_false (by omega); subst had; clear hzz; go_wp2_with fail; exact ⟨⟨i + 1, hin, by go_num, HB⟩, by simp [RowKit.intOf]; omega⟩
          · obtain rfl : i = n := (by omega); have hiI : ¬ (i : Int) < (i : Int) := (by omega); go_wp2_with fail
            go_loopw [11, 12, 13, 14] (fun s11 s12 s13 s14 wq => ∃ (r : Nat) (v12 v13 v14 : Value), r ≤ i ∧ s11 = .int .i64 r ∧ s12 = v12 ∧ s13 = v13 ∧ s14 = v14 ∧ Sl (Below w2.heap.size w2 wq) ∧ Sl (∀ r', r' < r → ∀ s : Nat, most - gt l r' + 1 + 12 * (s : Int) ≤ u → PD f q early n2 (most - gt l r' + 1 + 12 * (s : Int)))) (fun s11 _ _ _ _ => i - (RowKit.intOf s11).toNat)
            case atStart => exact ⟨0, _, _, _, Nat.zero_le _, rfl, rfl, rfl, rfl, HB, ⟨fun r' h => absurd h (Nat.not_lt_zero _)⟩⟩
            case round =>
              clear HB x0 x1 x2 x3 x4 y0 y1 y2 hi hin hiI; obtain ⟨r, v12, v13, v14, hr, rfl, rfl, rfl, rfl, HB, HPD⟩ := hrel; obtain ⟨⟨x0, x1, x2, x3, x4⟩, y0, y1, y2⟩ := HS.out wr HB.out
              by_cases hrn : r < i
              · have hrI : (r : Int) < (i : Int) := (by omega); have hrd : decide ((r : Int) < (i : Int)) = true := decide_eq_true hrI; obtain ⟨ad, had, _, ci⟩ := (HL2.out.below HB.out).cell (j := r) hrn; have hz := H.out.z r (by rw [HLN.out.1]; exact hrn); obtain ⟨z, hzz⟩ : ∃ z, gt l r = z := ⟨_, rfl⟩; rw [hzz] at ci hz; have HZZ : Sl _ := ⟨hzz⟩; obtain ⟨cc, hcc⟩ : ∃ cc, most - z + 1 = cc := ⟨_, rfl⟩; have HCC : Sl _ := ⟨hcc⟩; have hcb : -71 ≤ cc ∧ cc ≤ 164 := (by omega); have hw1 : IntKind.i64.wrap (most - z) = most - z := (by rw [IntKind.wrap_i64]; omega); have hw2 : IntKind.i64.wrap (most - z + 1) = cc := (by rw [hcc, IntKind.wrap_i64]; omega); have hw3 : IntKind.i64.wrap cc = cc := (by rw [IntKind.wrap_i64]; omega); subst had; clear hzz; go_wp2_with fail
                go_quiet (fail)
                have HBq : Sl (Below w2.heap.size w2 (wr.drewN nq)) := ⟨below_drewN HB.out nq⟩; clear HB x0 x1 x2 x3 x4 y0 y1 y2 ci; generalize wr.drewN nq = wp at *
                go_wp2_with fail
                go_loopw [12, 13, 14] (fun s12 s13 s14 wq => ∃ (t : Nat) (v13 v14 : Value), s12 = .int .i64 (cc + 12 * (t : Int)) ∧ s13 = v13 ∧ s14 = v14 ∧ cc + 12 * (t : Int) ≤ u + 165 ∧ Sl (Below w2.heap.size w2 wq) ∧ Sl (∀ s : Nat, s < t → PD f q early n2 (cc + 12 * (s : Int)))) (fun s12 _ _ _ => (u + 165 - RowKit.intOf s12).toNat)
                case atStart => exact ⟨0, _, _, by go_num, rfl, rfl, by omega, HBq, ⟨fun s h => absurd h (Nat.not_lt_zero _)⟩⟩
                case round =>
                  clear HBq; obtain ⟨t, v13, v14, rfl, rfl, rfl, htu, HB, HPT⟩ := hrel; obtain ⟨⟨x0, x1, x2, x3, x4⟩, y0, y1, y2⟩ := HS.out wr HB.out; obtain ⟨du, hdu⟩ : ∃ du, cc + 12 * (t : Int) = du := ⟨_, rfl⟩; have HDU : Sl _ := ⟨hdu⟩; have hdb : -71 ≤ du ∧ du ≤ 300 := (by omega); rw [hdu]
                  by_cases hle : du ≤ u
                  · have hled : decide (du ≤ u) = true := decide_eq_true hle; have hwe : IntKind.i64.wrap (du - early) = du - early := (by rw [IntKind.wrap_i64]; omega); have hwd : IntKind.i64.wrap (du + 12) = du + 12 := (by rw [IntKind.wrap_i64]; omega)
                    by_cases hfe : du - early ≤ f
                    · have hfd : decide (du - early ≤ f) = true := decide_eq_true hfe; clear hdu; go_wp2_with fail
                      exact ⟨⟨t + 1, _, _, by have := HDU.out; congr 1; omega, rfl, rfl, by have := HDU.out; omega, HB, ⟨fun s hs => by
                        rcases Nat.lt_or_ge s t with h1 | h1
                        · exact HPT.out s h1
                        · rw [show s = t by omega, HDU.out]; exact .inl hfe⟩⟩, by simp [RowKit.intOf]; omega⟩
                    · have hfd : decide (du - early ≤ f) = false := decide_eq_false hfe; clear hdu; go_wp2_with fail
                      go_loopw [13, 14] (fun s13 s14 wq => ∃ (k2 : Nat) (b : Bool), k2 ≤ n2 ∧ s14 = .int .i64 k2 ∧ s13 = .bool b ∧ Sl (b = metB q early du k2) ∧ Sl (Below w2.heap.size w2 wq)) (fun _ s14 _ => n2 - (RowKit.intOf s14).toNat)
                      case atStart => exact ⟨0, false, Nat.zero_le _, rfl, rfl, ⟨rfl⟩, HB⟩
                      case round =>
                        clear HB x0 x1 x2 x3 x4 y0 y1 y2; obtain ⟨k2, b, hk2, rfl, rfl, HMB, HB⟩ := hrel; obtain ⟨⟨x0, x1, x2, x3, x4⟩, y0, y1, y2⟩ := HS.out wr HB.out
                        by_cases hkn : k2 < n2
                        · have hkI : (k2 : Int) < (n2 : Int) := (by omega); have hkd2 : decide ((k2 : Int) < (n2 : Int)) = true := decide_eq_true hkI; obtain ⟨aq, haq, _, cq⟩ := (HQ2.out.below HB.out).cell (j := k2) hkn; obtain ⟨z2, hz2⟩ : ∃ z, gt q k2 = z := ⟨_, rfl⟩; rw [hz2] at cq; have HST : Sl _ := ⟨metB_succ (du := du) (early := early) HMB.out hz2⟩; subst haq; clear hz2; rcases b with _ | _
                          · by_cases h1 : z2 ≤ du
                            · have h1d : decide (z2 ≤ du) = true := decide_eq_true h1
                              by_cases h2 : du - early ≤ z2
                              · have h2d : decide (du - early ≤ z2) = true := decide_eq_true h2; rw [h1d, h2d] at HST; go_wp2_with fail
                                go_quiet (fail)
                                have HBq : Sl (Below w2.heap.size w2 (wr.drewN nq)) := ⟨below_drewN HB.out nq⟩; clear HB x0 x1 x2 x3 x4 y0 y1 y2 cq; generalize wr.drewN nq = wp2 at *
                                go_wp2_with fail; exact ⟨⟨k2 + 1, true, hkn, by go_num, rfl, ⟨HST.out.symm⟩, HBq⟩, by simp [RowKit.intOf]; omega⟩
                              · have h2d : decide (du - early ≤ z2) = false := decide_eq_false h2; rw [h1d, h2d] at HST; go_wp2_with fail
                                go_quiet (fail)
                                have HBq : Sl (Below w2.heap.size w2 (wr.drewN nq)) := ⟨below_drewN HB.out nq⟩; clear HB x0 x1 x2 x3 x4 y0 y1 y2 cq; generalize wr.drewN nq = wp2 at *
                                go_wp2_with fail; exact ⟨⟨k2 + 1, false, hkn, by go_num, rfl, ⟨HST.out.symm⟩, HBq⟩, by simp [RowKit.intOf]; omega⟩
                            · have h1d : decide (z2 ≤ du) = false := decide_eq_false h1; rw [h1d] at HST; go_wp2_with fail
                              go_quiet (fail)
                              have HBq : Sl (Below w2.heap.size w2 (wr.drewN nq)) := ⟨below_drewN HB.out nq⟩; clear HB x0 x1 x2 x3 x4 y0 y1 y2 cq; generalize wr.drewN nq = wp2 at *
                              go_wp2_with fail; exact ⟨⟨k2 + 1, false, hkn, by go_num, rfl, ⟨HST.out.symm⟩, HBq⟩, by simp [RowKit.intOf]; omega⟩
                          · go_wp2_with fail
                            go_quiet (fail)
                            have HBq : Sl (Below w2.heap.size w2 (wr.drewN nq)) := ⟨below_drewN HB.out nq⟩; clear HB x0 x1 x2 x3 x4 y0 y1 y2 cq; generalize wr.drewN nq = wp2 at *
                            go_wp2_with fail; exact ⟨⟨k2 + 1, true, hkn, by go_num, rfl, ⟨HST.out.symm⟩, HBq⟩, by simp [RowKit.intOf]; omega⟩
                        · obtain rfl : k2 = n2 := (by omega); have hkI : ¬ (k2 : Int) < (k2 : Int) := (by omega); rcases b with _ | _
                          · go_wp2_with fail; refine (HAW.out _ (HU2.out.trans (HB.out.mono HU2.out.size))).mono ?_; rintro e w9 ⟨rfl, hb⟩; have HB9 : Sl (Below w.heap.size w w9) := ⟨hb⟩; clear hb; go_wp2_with fail; go_ret; exact ⟨rfl, HB9.out⟩
                          · go_wp2_with fail
                            exact ⟨⟨t + 1, _, _, by have := HDU.out; congr 1; omega, rfl, rfl, by have := HDU.out; omega, HB, ⟨fun s hs => by
                              rcases Nat.lt_or_ge s t with h1 | h1
                              · exact HPT.out s h1
                              · rw [show s = t by omega, HDU.out]; exact .inr HMB.out.symm⟩⟩, by simp [RowKit.intOf]; omega⟩
                  · have hled : decide (du ≤ u) = false := decide_eq_false hle; have HDL : Sl (¬ du ≤ u) := ⟨hle⟩; clear hdu; go_wp2_with fail
                    exact ⟨⟨r + 1, _, _, _, hrn, by go_num, rfl, rfl, rfl, HB, ⟨fun r' hr' s hs => by
                      rcases Nat.lt_or_ge r' r with h1 | h1
                      · exact HPD.out r' h1 s hs
                      · obtain rfl : r' = r := (by omega); rw [HZZ.out, HCC.out] at hs ⊢; refine HPT.out s ?_; have h2 := HDU.out; have h3 := HDL.out
                        omega⟩⟩, by simp [RowKit.intOf]; omega⟩
              · exfalso; refine pl_found H.out HFEW.out fun r' hr' s hs => ?_
                have := HPD.out r' (by rw [HLN.out.1] at hr'; omega) s hs; rw [HLN.out.2]; exact this
  · have h0b : (plE f u l most early != 0) = true := (by simpa using h0); obtain ⟨r, hr⟩ : ∃ r, plE f u l most early = r := ⟨_, rfl⟩; rw [hr] at h0b ⊢; have HB1 : Sl (Below w1.heap.size w1 (w1.alloc (.cells #[.int .i64 0, .int .i64 0, .slice none 0 0] 24))) := ⟨(Below.refl _ _).alloc (Nat.le_refl _) _⟩; have HU2 : Sl (Below w.heap.size w (w1.alloc (.cells #[.int .i64 0, .int .i64 0, .slice none 0 0] 24))) := ⟨HU1.out.trans (HB1.out.mono HU1.out.size)⟩; clear h0 hr hb HP1 HU HBK HL HQ; go_wp2_with fail; generalize w1.alloc (.cells #[.int .i64 0, .int .i64 0, .slice none 0 0] 24) = w2 at *
    go_wp2_with fail; refine (HAW.out _ HU2.out).mono ?_; rintro e w9 ⟨rfl, hb⟩; have HB9 : Sl (Below w.heap.size w w9) := ⟨hb⟩; clear hb; go_wp2_with fail; go_ret; exact ⟨rfl, HB9.out⟩
end Go.Proofs.YtkjkbhkcebbjdaaGreatDoor
