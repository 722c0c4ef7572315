/- Package mixtures: each: a function is called for each key and its ranks. (Printed by a program for two functions.) -/
import Derived.Test.YtkjkbhkcebbjdaaGreatDoorMyS
import Derived.Test.YtkjkbhkcebbjdaaGreatDoorMyD
namespace Go.Proofs.YtkjkbhkcebbjdaaGreatDoor
set_option linter.unusedSimpArgs false
open Go.RowKit
set_option linter.unusedVariables false

/-- what holds between the calls: of the first k keys -/
structure EachInv (g : Nat) (a b : Int) (A : Option Addr) (n c : Nat) (L : List Bk) (I : Nat → World → Prop) : Prop where
  blk : ∀ k W, I k W → Blk W g 24 #[.int .i64 a, .int .i64 b, .slice A n c] ∧ MXA W A n c L
  keep : ∀ k W W', I k W → Below W.heap.size W W' → I k W'
set_option maxHeartbeats 3200000 in
set_option maxRecDepth 100000 in
theorem eachD_any (g gc : Nat) (a b : Int) (A : Option Addr) (n c : Nat) (L : List Bk) (I : Nat → World → Prop) (w : World) (hF : (mxO a b L).Fine) (hI : EachInv g a b A n c L I) (h0 : I 0 w)
    (hstep : ∀ (k : Nat) (q : Bk) (W : World), k < (mxO a b L).keys → L[(mxO a b L).at ((mxO a b L).key k) (mxO a b L).n]? = some q → I k W → Calls Tryz.prog 41 #[.int .i64 ((mxO a b L).key k), .slice q.A q.n q.c, .pointer (some ⟨gc, 0, none⟩)] W fun e w' => e = .returned (.tuple #[]) ∧ I (k + 1) w' ∧ ∀ g5 cs, Blk W g5 49 cs → Blk w' g5 49 cs) :
    Calls Tryz.prog 39 #[.pointer (some ⟨g, 0, none⟩), .func (.func 41) #[] #[.pointer (some ⟨gc, 0, none⟩)]] w fun e w' => e = .returned (.tuple #[]) ∧ I (mxO a b L).keys w' := by
  have hrun : ∀ (args : Array Value) (w : World), (callFunc 41 args).run Tryz.prog w = .ok (.enter 41 args) w := fun a w => by go_simp
  have HI : Sl _ := ⟨hI⟩
  have HST : Sl _ := ⟨hstep⟩
  have HIW : Sl _ := ⟨h0⟩
  have HF : Sl _ := ⟨hF⟩
  have HL : Sl (L.length = n) := ⟨(hI.blk 0 w h0).2.mx.len⟩
  have HN : Sl (n ≤ 12 ∧ 0 < n) := ⟨by have h1 := hF.n1; have h2 := hF.ord.pos; rw [mxO_n, HL.out] at h1 h2; exact ⟨h1, h2⟩⟩
  clear hI hstep h0 hF
  have c2 := (HI.out.blk 0 w HIW.out).1.cell 2
  simp at c2
  go_enter Tryz.func39, Tryz.ntmps39
  go_wp2_with fail
  clear c2
  go_loopw [4, 5, 6, 12] (fun s4 s5 s6 s12 wr => ∃ (i : Nat) (v4 v5 v6 : Value), i ≤ n ∧ s12 = .int .i64 i ∧ s4 = v4 ∧ s5 = v5 ∧ s6 = v6 ∧ Sl (I (if i < n then (mxO a b L).ahead i else (mxO a b L).keys) wr)) (fun _ _ _ s12 _ => n - (RowKit.intOf s12).toNat)
  case atStart => exact ⟨0, _, _, _, Nat.zero_le _, rfl, rfl, rfl, rfl, ⟨by
    rw [if_pos HN.out.2]
    have : (mxO a b L).ahead 0 = 0 := by unfold Mx.ahead; rw [HF.out.ord.first]; omega
    rw [this]; exact HIW.out⟩⟩
  case round =>
    clear HIW
    obtain ⟨i, v4, v5, v6, hi, rfl, rfl, rfl, rfl, HK⟩ := hrel
    by_cases hin : i < n
    · have hix : i < (mxO a b L).n := by rw [mxO_n, HL.out]; exact hin
      obtain ⟨bk, hbk⟩ : ∃ bk, L[i]? = some bk := ⟨_, List.getElem?_eq_getElem (by rw [HL.out]; exact hin)⟩
      have HB0 : Sl _ := ⟨HI.out.blk _ _ HK.out⟩
      obtain ⟨ad, rfl, hab, e1, e2⟩ := HB0.out.2.mx.cells2 hbk
      have hk0 := HK.out
      rw [if_pos hin] at hk0
      have HK0 : Sl (I ((mxO a b L).ahead i) wr) := ⟨hk0⟩
      have HBK : Sl _ := ⟨hbk⟩
      have HFR : Sl ((mxO a b L).fr i = bk.fr) := ⟨(mxO_at hbk).1⟩
      have hfb := HF.out.fr_bd hix
      rw [HFR.out] at hfb
      have hlb := HF.out.last_bd hix
      have hlg := HF.out.ord.last_ge hix
      rw [HFR.out] at hlg
      obtain ⟨la, hla⟩ : ∃ la, (mxO a b L).last i = la := ⟨_, rfl⟩
      rw [hla] at hlb hlg
      have HLA : Sl _ := ⟨hla⟩
      have HAF : Sl (a ≤ bk.fr) := ⟨by rw [← HFR.out]; have := HF.out.ord.mono (Nat.zero_le i) hix; rw [HF.out.ord.first] at this; exact this⟩
      clear hbk hk0 hla HK
      obtain ⟨fr, BA, bn, bc, bl⟩ := bk
      simp only [] at e1 e2 hfb hlg HAF HFR
      have HBW : Sl (Below wr.heap.size wr (wr.alloc (.cells #[.int .i64 fr, .slice BA bn bc] 49))) := ⟨(Below.refl _ _).alloc (Nat.le_refl _) _⟩
      have XN : Sl (Blk (wr.alloc (.cells #[.int .i64 fr, .slice BA bn bc] 49)) wr.heap.size 49 #[.int .i64 fr, .slice BA bn bc]) := ⟨Blk.new _ _ _⟩
      have hlt : (i : Int) < (n : Int) := by omega
      have hn12 := HN.out.1
      go_wp2_with fail
      clear e1 e2 hab
      have HKQ : Sl (I ((mxO a b L).ahead i) (wr.alloc (.cells #[.int .i64 fr, .slice BA bn bc] 49))) := ⟨HI.out.keep _ _ _ HK0.out HBW.out⟩
      generalize wr.alloc (.cells #[.int .i64 fr, .slice BA bn bc] 49) = wq at *
      obtain ⟨g5, hg5⟩ : ∃ g5, wr.heap.size = g5 := ⟨_, rfl⟩
      rw [hg5] at XN
      rw [hg5]
      clear HK0 HB0 HBW hg5
      have x0 := XN.out.cell 0
      simp at x0
      go_wp2_with fail
      have HLAF : Sl (la = if i + 1 < n then (mxO a b L).fr (i + 1) - 1 else b) := ⟨by rw [← HLA.out]; unfold Mx.last; rw [mxO_n, HL.out]; rfl⟩
      go_loopw [6] (fun s6 wr => ∃ (j : Nat), fr + (j : Int) ≤ la + 1 ∧ s6 = .int .i64 (fr + (j : Int)) ∧ Sl (I ((mxO a b L).ahead i + j) wr ∧ Blk wr g5 49 #[.int .i64 fr, .slice BA bn bc])) (fun s6 _ => (la + 1 - RowKit.intOf s6).toNat)
      case atStart => exact ⟨0, by omega, by go_num, ⟨HKQ.out, XN.out⟩⟩
      case round =>
        clear HKQ XN
        obtain ⟨j, hj, rfl, HJ⟩ := hrel
        have HB1 : Sl _ := ⟨HI.out.blk _ _ HJ.out.1⟩
        have HCL : Sl _ := ⟨last_any g a b (some ad) n c L i wr HB1.out.1 HB1.out.2 hin (by omega) (by rw [HLA.out]; exact ⟨by omega, by omega⟩)⟩
        have hca := HCL.out
        rw [HLA.out] at hca
        replace HCL : Sl _ := ⟨hca⟩
        clear hca
        have x1 := HJ.out.2.cell 1
        simp at x1
        obtain ⟨key, hk⟩ : ∃ key, fr + (j : Int) = key := ⟨_, rfl⟩
        have HKY : Sl _ := ⟨hk⟩
        rw [hk]
        rw [hk] at hj
        have hkb : 0 ≤ key ∧ key ≤ 128 := by omega
        clear hk
        by_cases hkl : key ≤ la
        · have hkd : decide (key ≤ la) = true := decide_eq_true hkl
          have hkey : (mxO a b L).key ((mxO a b L).ahead i + j) = key := by
            have hA : (mxO a b L).a = a := rfl
            unfold Mx.key Mx.ahead
            rw [hA, HFR.out]
            have := HAF.out
            have := HKY.out
            omega
          have hat : (mxO a b L).at key (mxO a b L).n = i := HF.out.ord.at_of hix (by rw [HFR.out]; have := HKY.out; omega) (by rw [HLA.out]; exact hkl)
          have hklt : (mxO a b L).ahead i + j < (mxO a b L).keys := by
            have hA : (mxO a b L).a = a := rfl
            have hB : (mxO a b L).b = b := rfl
            have hle := HF.out.ord.last_le hix
            rw [HLA.out, hB] at hle
            unfold Mx.keys Mx.ahead
            rw [hA, hB, HFR.out]
            have := HAF.out
            have := HKY.out
            omega
          have HCC := HST.out ((mxO a b L).ahead i + j) ⟨fr, BA, bn, bc, bl⟩ wr hklt (by rw [hkey, hat]; exact HBK.out) HJ.out.1
          rw [hkey] at HCC
          have HCD : Sl _ := ⟨HCC⟩
          clear HCC hat hkey hklt
          have hx5 := HJ.out.2.lt
          go_wp2_with fail
          refine HCL.out.mono ?_; rintro e w9 ⟨rfl, rfl⟩
          go_wp2_with fail
          refine HCD.out.mono ?_; rintro e w9 ⟨rfl, hi9, hb9⟩
          have HI9 : Sl _ := ⟨And.intro hi9 (hb9 _ _ HJ.out.2)⟩
          clear hi9 hb9
          go_wp2_with fail
          exact ⟨⟨j + 1, by have := HKY.out; omega, by have := HKY.out; congr 1; omega, ⟨HI9.out.1, HI9.out.2⟩⟩, by simp [RowKit.intOf]; omega⟩
        · have hkd : decide (key ≤ la) = false := decide_eq_false hkl
          have HEN : Sl (I (if i + 1 < n then (mxO a b L).ahead (i + 1) else (mxO a b L).keys) wr) := ⟨by
            have e : (mxO a b L).ahead i + j = if i + 1 < n then (mxO a b L).ahead (i + 1) else (mxO a b L).keys := by
              have hA : (mxO a b L).a = a := rfl
              have hB : (mxO a b L).b = b := rfl
              have := HAF.out
              have := HKY.out
              have hl := HLAF.out
              have hml := HF.out.ord.last_le hix
              rw [HLA.out, hB] at hml
              split
              · rename_i h
                rw [if_pos h] at hl
                unfold Mx.ahead
                rw [hA, HFR.out]
                omega
              · rename_i h
                rw [if_neg h] at hl
                unfold Mx.ahead Mx.keys
                rw [hA, hB, HFR.out]
                omega
            rw [← e]; exact HJ.out.1⟩
          clear HLAF
          go_wp2_with fail
          refine HCL.out.mono ?_; rintro e w9 ⟨rfl, rfl⟩
          go_wp2_with fail
          exact ⟨⟨i + 1, _, _, _, hin, by go_num, rfl, rfl, rfl, ⟨HEN.out⟩⟩, by simp [RowKit.intOf]; omega⟩
    · obtain rfl : i = n := by omega
      have HKE := HK.out
      rw [if_neg (Nat.lt_irrefl _)] at HKE
      have HKS : Sl _ := ⟨HKE⟩
      clear HKE HK
      go_wp2_with fail
      go_end0
      exact ⟨rfl, HKS.out⟩
set_option maxHeartbeats 3200000 in
set_option maxRecDepth 100000 in
theorem eachC_any (g gc : Nat) (a b : Int) (A : Option Addr) (n c : Nat) (L : List Bk) (I : Nat → World → Prop) (w : World) (hF : (mxO a b L).Fine) (hI : EachInv g a b A n c L I) (h0 : I 0 w)
    (hstep : ∀ (k : Nat) (q : Bk) (W : World), k < (mxO a b L).keys → L[(mxO a b L).at ((mxO a b L).key k) (mxO a b L).n]? = some q → I k W → Calls Tryz.prog 40 #[.int .i64 ((mxO a b L).key k), .slice q.A q.n q.c, .pointer (some ⟨gc, 0, none⟩)] W fun e w' => e = .returned (.tuple #[]) ∧ I (k + 1) w' ∧ ∀ g5 cs, Blk W g5 49 cs → Blk w' g5 49 cs) :
    Calls Tryz.prog 39 #[.pointer (some ⟨g, 0, none⟩), .func (.func 40) #[] #[.pointer (some ⟨gc, 0, none⟩)]] w fun e w' => e = .returned (.tuple #[]) ∧ I (mxO a b L).keys w' := by
  have hrun : ∀ (args : Array Value) (w : World), (callFunc 40 args).run Tryz.prog w = .ok (.enter 40 args) w := fun a w => by go_simp
  have HI : Sl _ := ⟨hI⟩
  have HST : Sl _ := ⟨hstep⟩
  have HIW : Sl _ := ⟨h0⟩
  have HF : Sl _ := ⟨hF⟩
  have HL : Sl (L.length = n) := ⟨(hI.blk 0 w h0).2.mx.len⟩
  have HN : Sl (n ≤ 12 ∧ 0 < n) := ⟨by have h1 := hF.n1; have h2 := hF.ord.pos; rw [mxO_n, HL.out] at h1 h2; exact ⟨h1, h2⟩⟩
  clear hI hstep h0 hF
  have c2 := (HI.out.blk 0 w HIW.out).1.cell 2
  simp at c2
  go_enter Tryz.func39, Tryz.ntmps39
  go_wp2_with fail
  clear c2
  go_loopw [4, 5, 6, 12] (fun s4 s5 s6 s12 wr => ∃ (i : Nat) (v4 v5 v6 : Value), i ≤ n ∧ s12 = .int .i64 i ∧ s4 = v4 ∧ s5 = v5 ∧ s6 = v6 ∧ Sl (I (if i < n then (mxO a b L).ahead i else (mxO a b L).keys) wr)) (fun _ _ _ s12 _ => n - (RowKit.intOf s12).toNat)
  case atStart => exact ⟨0, _, _, _, Nat.zero_le _, rfl, rfl, rfl, rfl, ⟨by
    rw [if_pos HN.out.2]
    have : (mxO a b L).ahead 0 = 0 := by unfold Mx.ahead; rw [HF.out.ord.first]; omega
    rw [this]; exact HIW.out⟩⟩
  case round =>
    clear HIW
    obtain ⟨i, v4, v5, v6, hi, rfl, rfl, rfl, rfl, HK⟩ := hrel
    by_cases hin : i < n
    · have hix : i < (mxO a b L).n := by rw [mxO_n, HL.out]; exact hin
      obtain ⟨bk, hbk⟩ : ∃ bk, L[i]? = some bk := ⟨_, List.getElem?_eq_getElem (by rw [HL.out]; exact hin)⟩
      have HB0 : Sl _ := ⟨HI.out.blk _ _ HK.out⟩
      obtain ⟨ad, rfl, hab, e1, e2⟩ := HB0.out.2.mx.cells2 hbk
      have hk0 := HK.out
      rw [if_pos hin] at hk0
      have HK0 : Sl (I ((mxO a b L).ahead i) wr) := ⟨hk0⟩
      have HBK : Sl _ := ⟨hbk⟩
      have HFR : Sl ((mxO a b L).fr i = bk.fr) := ⟨(mxO_at hbk).1⟩
      have hfb := HF.out.fr_bd hix
      rw [HFR.out] at hfb
      have hlb := HF.out.last_bd hix
      have hlg := HF.out.ord.last_ge hix
      rw [HFR.out] at hlg
      obtain ⟨la, hla⟩ : ∃ la, (mxO a b L).last i = la := ⟨_, rfl⟩
      rw [hla] at hlb hlg
      have HLA : Sl _ := ⟨hla⟩
      have HAF : Sl (a ≤ bk.fr) := ⟨by rw [← HFR.out]; have := HF.out.ord.mono (Nat.zero_le i) hix; rw [HF.out.ord.first] at this; exact this⟩
      clear hbk hk0 hla HK
      obtain ⟨fr, BA, bn, bc, bl⟩ := bk
      simp only [] at e1 e2 hfb hlg HAF HFR
      have HBW : Sl (Below wr.heap.size wr (wr.alloc (.cells #[.int .i64 fr, .slice BA bn bc] 49))) := ⟨(Below.refl _ _).alloc (Nat.le_refl _) _⟩
      have XN : Sl (Blk (wr.alloc (.cells #[.int .i64 fr, .slice BA bn bc] 49)) wr.heap.size 49 #[.int .i64 fr, .slice BA bn bc]) := ⟨Blk.new _ _ _⟩
      have hlt : (i : Int) < (n : Int) := by omega
      have hn12 := HN.out.1
      go_wp2_with fail
      clear e1 e2 hab
      have HKQ : Sl (I ((mxO a b L).ahead i) (wr.alloc (.cells #[.int .i64 fr, .slice BA bn bc] 49))) := ⟨HI.out.keep _ _ _ HK0.out HBW.out⟩
      generalize wr.alloc (.cells #[.int .i64 fr, .slice BA bn bc] 49) = wq at *
      obtain ⟨g5, hg5⟩ : ∃ g5, wr.heap.size = g5 := ⟨_, rfl⟩
      rw [hg5] at XN
      rw [hg5]
      clear HK0 HB0 HBW hg5
      have x0 := XN.out.cell 0
      simp at x0
      go_wp2_with fail
      have HLAF : Sl (la = if i + 1 < n then (mxO a b L).fr (i + 1) - 1 else b) := ⟨by rw [← HLA.out]; unfold Mx.last; rw [mxO_n, HL.out]; rfl⟩
      go_loopw [6] (fun s6 wr => ∃ (j : Nat), fr + (j : Int) ≤ la + 1 ∧ s6 = .int .i64 (fr + (j : Int)) ∧ Sl (I ((mxO a b L).ahead i + j) wr ∧ Blk wr g5 49 #[.int .i64 fr, .slice BA bn bc])) (fun s6 _ => (la + 1 - RowKit.intOf s6).toNat)
      case atStart => exact ⟨0, by omega, by go_num, ⟨HKQ.out, XN.out⟩⟩
      case round =>
        clear HKQ XN
        obtain ⟨j, hj, rfl, HJ⟩ := hrel
        have HB1 : Sl _ := ⟨HI.out.blk _ _ HJ.out.1⟩
        have HCL : Sl _ := ⟨last_any g a b (some ad) n c L i wr HB1.out.1 HB1.out.2 hin (by omega) (by rw [HLA.out]; exact ⟨by omega, by omega⟩)⟩
        have hca := HCL.out
        rw [HLA.out] at hca
        replace HCL : Sl _ := ⟨hca⟩
        clear hca
        have x1 := HJ.out.2.cell 1
        simp at x1
        obtain ⟨key, hk⟩ : ∃ key, fr + (j : Int) = key := ⟨_, rfl⟩
        have HKY : Sl _ := ⟨hk⟩
        rw [hk]
        rw [hk] at hj
        have hkb : 0 ≤ key ∧ key ≤ 128 := by omega
        clear hk
        by_cases hkl : key ≤ la
        · have hkd : decide (key ≤ la) = true := decide_eq_true hkl
          have hkey : (mxO a b L).key ((mxO a b L).ahead i + j) = key := by
            have hA : (mxO a b L).a = a := rfl
            unfold Mx.key Mx.ahead
            rw [hA, HFR.out]
            have := HAF.out
            have := HKY.out
            omega
          have hat : (mxO a b L).at key (mxO a b L).n = i := HF.out.ord.at_of hix (by rw [HFR.out]; have := HKY.out; omega) (by rw [HLA.out]; exact hkl)
          have hklt : (mxO a b L).ahead i + j < (mxO a b L).keys := by
            have hA : (mxO a b L).a = a := rfl
            have hB : (mxO a b L).b = b := rfl
            have hle := HF.out.ord.last_le hix
            rw [HLA.out, hB] at hle
            unfold Mx.keys Mx.ahead
            rw [hA, hB, HFR.out]
            have := HAF.out
            have := HKY.out
            omega
          have HCC := HST.out ((mxO a b L).ahead i + j) ⟨fr, BA, bn, bc, bl⟩ wr hklt (by rw [hkey, hat]; exact HBK.out) HJ.out.1
          rw [hkey] at HCC
          have HCD : Sl _ := ⟨HCC⟩
          clear HCC hat hkey hklt
          have hx5 := HJ.out.2.lt
          go_wp2_with fail
          refine HCL.out.mono ?_; rintro e w9 ⟨rfl, rfl⟩
          go_wp2_with fail
          refine HCD.out.mono ?_; rintro e w9 ⟨rfl, hi9, hb9⟩
          have HI9 : Sl _ := ⟨And.intro hi9 (hb9 _ _ HJ.out.2)⟩
          clear hi9 hb9
          go_wp2_with fail
          exact ⟨⟨j + 1, by have := HKY.out; omega, by have := HKY.out; congr 1; omega, ⟨HI9.out.1, HI9.out.2⟩⟩, by simp [RowKit.intOf]; omega⟩
        · have hkd : decide (key ≤ la) = false := decide_eq_false hkl
          have HEN : Sl (I (if i + 1 < n then (mxO a b L).ahead (i + 1) else (mxO a b L).keys) wr) := ⟨by
            have e : (mxO a b L).ahead i + j = if i + 1 < n then (mxO a b L).ahead (i + 1) else (mxO a b L).keys := by
              have hA : (mxO a b L).a = a := rfl
              have hB : (mxO a b L).b = b := rfl
              have := HAF.out
              have := HKY.out
              have hl := HLAF.out
              have hml := HF.out.ord.last_le hix
              rw [HLA.out, hB] at hml
              split
              · rename_i h
                rw [if_pos h] at hl
                unfold Mx.ahead
                rw [hA, HFR.out]
                omega
              · rename_i h
                rw [if_neg h] at hl
                unfold Mx.ahead Mx.keys
                rw [hA, hB, HFR.out]
                omega
            rw [← e]; exact HJ.out.1⟩
          clear HLAF
          go_wp2_with fail
          refine HCL.out.mono ?_; rintro e w9 ⟨rfl, rfl⟩
          go_wp2_with fail
          exact ⟨⟨i + 1, _, _, _, hin, by go_num, rfl, rfl, rfl, ⟨HEN.out⟩⟩, by simp [RowKit.intOf]; omega⟩
    · obtain rfl : i = n := by omega
      have HKE := HK.out
      rw [if_neg (Nat.lt_irrefl _)] at HKE
      have HKS : Sl _ := ⟨HKE⟩
      clear HKE HK
      go_wp2_with fail
      go_end0
      exact ⟨rfl, HKS.out⟩
end Go.Proofs.YtkjkbhkcebbjdaaGreatDoor
