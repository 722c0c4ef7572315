/- The law MixturesTables walks to true. -/
import Derived.Test.YtkjkbhkcebbjdaaGreatDoorMzE
import Derived.Test.YtkjkbhkcebbjdaaGreatDoorMzG
import Derived.Test.YtkjkbhkcebbjdaaGreatDoorMzI
import Derived.Test.YtkjkbhkcebbjdaaGreatDoorMzA
namespace Go.Proofs.YtkjkbhkcebbjdaaGreatDoor
set_option linter.unusedSimpArgs false
open Go.RowKit
set_option linter.unusedVariables false

theorem flat_get {α : Type} (f : α → List Value) (sz : Nat) (hf : ∀ p, (f p).length = sz) : ∀ (l : List α) (i : Nat) (p : α) (t : Nat), l[i]? = some p → t < sz → (l.flatMap f)[i * sz + t]? = (f p)[t]?
  | [], i, p, t, h, _ => by cases h
  | y :: l, 0, p, t, h, ht => by
    have : y = p := by simpa using h
    subst this
    rw [Nat.zero_mul, Nat.zero_add, List.flatMap_cons, List.getElem?_append_left (by rw [hf]; exact ht)]
  | y :: l, i+1, p, t, h, ht => by
    have h1 : l[i]? = some p := by simpa using h
    rw [List.flatMap_cons, List.getElem?_append_right (by rw [hf, Nat.succ_mul]; omega), hf, show (i + 1) * sz + t - sz = i * sz + t by rw [Nat.succ_mul]; omega]
    exact flat_get f sz hf l i p t h1 ht
theorem flat_cells {w : World} {B sz n : Nat} {A : Option Addr} {α : Type} {f : α → List Value} {l : List α} (h : Reads w B sz A n (l.flatMap f)) (hf : ∀ p, (f p).length = sz) (hl : l.length = n) {i : Nat} (hi : i < n) :
    ∃ ad p, A = some ad ∧ l[i]? = some p ∧ ∀ t u, (f p)[t]? = some u → w.cell? ((ad.add (i * sz)).add t) = some u := by
  obtain ⟨ad, e, hb, hc⟩ := h.2 (by omega)
  refine ⟨ad, l[i]'(by omega), e, List.getElem?_eq_getElem (by omega), fun t u ht => ?_⟩
  have htl : t < sz := by
    rcases Nat.lt_or_ge t sz with h | h
    · exact h
    · rw [List.getElem?_eq_none (by rw [hf]; exact h)] at ht; cases ht
  rw [add_of_add]
  refine hc _ _ ?_
  rw [flat_get f sz hf l i _ t (List.getElem?_eq_getElem (by omega)) htl]
  exact ht
theorem addr_z (ad : Addr) : ad.add 0 = ad := by simp [Addr.add]
theorem addr_1 (ad : Addr) : ad.add 1 = ⟨ad.block, ad.off + 1, none⟩ := by simp [Addr.add]
theorem addr_2 (ad : Addr) : ad.add 2 = ⟨ad.block, ad.off + 2, none⟩ := by simp [Addr.add]
theorem Mx.stps_len (x : Mx) : x.stps.length ≤ 100 := by
  unfold Mx.stps
  split
  · rename_i h
    have hf := Mx.fine (Mx.chk_ok h).1
    have := hf.steps_len (x.n - 1) (by have := hf.ord.pos; omega)
    have := hf.n1
    omega
  · simp
theorem Mx.cnts_len (x : Mx) : x.cnts.length ≤ 140 := by
  unfold Mx.cnts
  split
  · exact x.counts_len 140
  · simp
theorem Mx.dbls_len (x : Mx) : x.dbls.length ≤ 61 := by
  unfold Mx.dbls
  split
  · rename_i h
    have hf := Mx.fine (Mx.chk_ok h).1
    have := x.dbl_len x.keys
    have := hf.keys_pos
    omega
  · simp
set_option maxHeartbeats 12800000 in
set_option maxRecDepth 100000 in
theorem mixturesTables_any (a b : Int) (A : Option Addr) (n c : Nat) (L : List Bk) (w : World) (hM : MXA w A n c L) (ha : i64 a) (hb : i64 b) :
    Calls Tryz.prog 7 #[.agg #[.int .i64 a, .int .i64 b, .slice A n c]] w fun e w' => e = .returned (.bool true) ∧ Below w.heap.size w w' := by
  have HU : Sl (Below w.heap.size w (w.alloc (.cells #[.int .i64 a, .int .i64 b, .slice A n c] 24))) := ⟨(Below.refl _ _).alloc (Nat.le_refl _) _⟩
  have HBK : Sl _ := ⟨Blk.new w 24 #[.int .i64 a, .int .i64 b, .slice A n c]⟩
  have HM : Sl _ := ⟨hM.below HU.out⟩
  have HS1 : Sl _ := ⟨fun (W : World) (h : MXA W A n c L) => Steps_any a b A n c L W h ha hb⟩
  have HS2 : Sl _ := ⟨fun (W : World) (h : MXA W A n c L) => rSteps_any a b A n c L W h ha hb⟩
  have HC1 : Sl _ := ⟨fun (W : World) (h : MXA W A n c L) => Counts_any a b A n c L W h ha hb⟩
  have HC2 : Sl _ := ⟨fun (W : World) (h : MXA W A n c L) => rCounts_any a b A n c L W h ha hb⟩
  have HD1 : Sl _ := ⟨fun (W : World) (h : MXA W A n c L) => Doubles_any a b A n c L W h ha hb⟩
  have HD2 : Sl _ := ⟨fun (W : World) (h : MXA W A n c L) => rDoubles_any a b A n c L W h ha hb⟩
  clear hM ha hb
  obtain ⟨x, hx⟩ : ∃ x, mxO a b L = x := ⟨_, rfl⟩
  rw [hx] at HS1 HS2 HC1 HC2 HD1 HD2
  clear hx
  obtain ⟨r, hr⟩ : ∃ r, x.chk = r := ⟨_, rfl⟩
  obtain ⟨ls, hls⟩ : ∃ l, x.stps = l := ⟨_, rfl⟩
  obtain ⟨lc, hlc⟩ : ∃ l, x.cnts = l := ⟨_, rfl⟩
  obtain ⟨ld, hld⟩ : ∃ l, x.dbls = l := ⟨_, rfl⟩
  have HLS : Sl _ := ⟨And.intro hr (And.intro hls (And.intro hlc hld))⟩
  have h1 := x.stps_len
  have h2 := x.cnts_len
  have h3 := x.dbls_len
  rw [hls] at h1
  rw [hlc] at h2
  rw [hld] at h3
  obtain ⟨ns, hns⟩ : ∃ n, ls.length = n := ⟨_, rfl⟩
  obtain ⟨nc, hnc⟩ : ∃ n, lc.length = n := ⟨_, rfl⟩
  obtain ⟨nd, hnd⟩ : ∃ n, ld.length = n := ⟨_, rfl⟩
  rw [hns] at h1
  rw [hnc] at h2
  rw [hnd] at h3
  have HNS : Sl _ := ⟨And.intro hns (And.intro hnc hnd)⟩
  clear hr hls hlc hld hns hnc hnd
  have hne1 : ((ns : Int) != (ns : Int)) = false := by simp
  have hne2 : ((nc : Int) != (nc : Int)) = false := by simp
  have hne3 : (r != r) = false := by simp
  go_enter Tryz.func7, Tryz.ntmps7
  go_wp2_with fail
  generalize w.alloc (.cells #[.int .i64 a, .int .i64 b, .slice A n c] 24) = w0 at *
  have HCE : Sl (∀ W, Below w0.heap.size w0 W → W.cell? ⟨w.heap.size, 0, none⟩ = some (.int .i64 a) ∧ W.cell? ⟨w.heap.size, 1, none⟩ = some (.int .i64 b) ∧ W.cell? ⟨w.heap.size, 2, none⟩ = some (.slice A n c)) := ⟨fun W h => by
    have e := HBK.out.below h HBK.out.lt
    exact ⟨by rw [e.cell]; rfl, by rw [e.cell]; rfl, by rw [e.cell]; rfl⟩⟩
  refine (HS1.out w0 HM.out).mono ?_; rintro e w1 ⟨⟨A1, c1, he, hr1⟩, hb⟩
  rw [HLS.out.1, HLS.out.2.1, HNS.out.1] at he
  rw [HLS.out.2.1, HNS.out.1] at hr1
  subst he
  have HB : Sl (Below w0.heap.size w0 w1) := ⟨hb⟩
  have HR1 : Sl _ := ⟨hr1⟩
  clear hb hr1
  obtain ⟨k0, k1, k2⟩ := HCE.out w1 HB.out
  go_wp2_with fail
  refine (HS2.out w1 (HM.out.below HB.out)).mono ?_; rintro e w2 ⟨⟨A2, d1, he, hr2⟩, hb⟩
  rw [HLS.out.1, HLS.out.2.1, HNS.out.1] at he
  rw [HLS.out.2.1, HNS.out.1] at hr2
  subst he
  replace HB : Sl (Below w0.heap.size w0 w2) := ⟨HB.out.trans (hb.mono HB.out.size)⟩
  replace HR1 : Sl (Reads w2 w2.heap.size 3 A1 ns (ls.flatMap sC)) := ⟨(HR1.out.below hb).more hb.size⟩
  have HR2 : Sl _ := ⟨hr2⟩
  clear hb hr2 k0 k1 k2
  obtain ⟨k0, k1, k2⟩ := HCE.out w2 HB.out
  go_wp2_with fail
  refine (HC1.out w2 (HM.out.below HB.out)).mono ?_; rintro e w3 ⟨⟨A3, e1, he, hr3⟩, hb⟩
  rw [HLS.out.1, HLS.out.2.2.1, HNS.out.2.1] at he
  rw [HLS.out.2.2.1, HNS.out.2.1] at hr3
  subst he
  replace HB : Sl (Below w0.heap.size w0 w3) := ⟨HB.out.trans (hb.mono HB.out.size)⟩
  replace HR1 : Sl (Reads w3 w3.heap.size 3 A1 ns (ls.flatMap sC)) := ⟨(HR1.out.below hb).more hb.size⟩
  replace HR2 : Sl (Reads w3 w3.heap.size 3 A2 ns (ls.flatMap sC)) := ⟨(HR2.out.below hb).more hb.size⟩
  have HR3 : Sl _ := ⟨hr3⟩
  clear hb hr3 k0 k1 k2
  obtain ⟨k0, k1, k2⟩ := HCE.out w3 HB.out
  go_wp2_with fail
  refine (HC2.out w3 (HM.out.below HB.out)).mono ?_; rintro e w4 ⟨⟨A4, f1, he, hr4⟩, hb⟩
  rw [HLS.out.1, HLS.out.2.2.1, HNS.out.2.1] at he
  rw [HLS.out.2.2.1, HNS.out.2.1] at hr4
  subst he
  replace HB : Sl (Below w0.heap.size w0 w4) := ⟨HB.out.trans (hb.mono HB.out.size)⟩
  replace HR1 : Sl (Reads w4 w4.heap.size 3 A1 ns (ls.flatMap sC)) := ⟨(HR1.out.below hb).more hb.size⟩
  replace HR2 : Sl (Reads w4 w4.heap.size 3 A2 ns (ls.flatMap sC)) := ⟨(HR2.out.below hb).more hb.size⟩
  replace HR3 : Sl (Reads w4 w4.heap.size 2 A3 nc (lc.flatMap cC)) := ⟨(HR3.out.below hb).more hb.size⟩
  have HR4 : Sl _ := ⟨hr4⟩
  clear hb hr4 k0 k1 k2 HS1 HS2 HC1 HC2
  go_wp2_with fail
  go_loopw [11] (fun s11 wr => ∃ (k : Nat), k ≤ ns ∧ s11 = .int .i64 k ∧ Sl (∃ q, wr = w4.drewN q)) (fun s11 _ => ns - (RowKit.intOf s11).toNat)
  case atStart => exact ⟨0, Nat.zero_le _, rfl, ⟨0, rfl⟩⟩
  case round =>
    obtain ⟨k, hk, rfl, HK⟩ := hrel
    by_cases hkn : k < ns
    · have h1r : Reads wr w4.heap.size 3 A1 ns (ls.flatMap sC) := by obtain ⟨q, hq⟩ := HK.out; rw [hq]; exact HR1.out.drewN q
      have h2r : Reads wr w4.heap.size 3 A2 ns (ls.flatMap sC) := by obtain ⟨q, hq⟩ := HK.out; rw [hq]; exact HR2.out.drewN q
      obtain ⟨ad1, p, e1', hp, hc1⟩ := flat_cells h1r (fun _ => rfl) HNS.out.1 hkn
      obtain ⟨ad2, p2, e2', hp2, hc2⟩ := flat_cells h2r (fun _ => rfl) HNS.out.1 hkn
      have hpp : p2 = p := by rw [hp] at hp2; injection hp2 with hp2; exact hp2.symm
      subst hpp e1' e2'
      have y0 := hc1 0 _ rfl
      have y1 := hc1 1 _ rfl
      have y2 := hc1 2 _ rfl
      have z0 := hc2 0 _ rfl
      have z1 := hc2 1 _ rfl
      have z2 := hc2 2 _ rfl
      rw [addr_z] at y0 z0
      rw [addr_1] at y1 z1
      rw [addr_2] at y2 z2
      have hkI : (k : Int) < (ns : Int) := by omega
      obtain ⟨p1, p3, p4⟩ := p2
      simp only [] at y0 y1 y2 z0 z1 z2
      clear hc1 hc2 hp hp2 h1r h2r
      go_wp2_with fail
      go_quiet (fail)
      go_wp2_with fail
      exact ⟨⟨k + 1, hkn, by go_num, ⟨by obtain ⟨q, hq⟩ := HK.out; exact ⟨q + nq, by rw [hq, drew2]⟩⟩⟩, by simp [RowKit.intOf]; omega⟩
    · obtain rfl : k = ns := by omega
      have HB5 : Sl (Below w0.heap.size w0 wr) := ⟨by obtain ⟨q, hq⟩ := HK.out; rw [hq]; exact below_drewN HB.out q⟩
      have HR35 : Sl (Reads wr w4.heap.size 2 A3 nc (lc.flatMap cC)) := ⟨by obtain ⟨q, hq⟩ := HK.out; rw [hq]; exact HR3.out.drewN q⟩
      have HR45 : Sl (Reads wr w4.heap.size 2 A4 nc (lc.flatMap cC)) := ⟨by obtain ⟨q, hq⟩ := HK.out; rw [hq]; exact HR4.out.drewN q⟩
      clear HR1 HR2 HR3 HR4 HK HB
      go_wp2_with fail
      generalize wr = w5 at *
      go_loopw [12] (fun s12 wr => ∃ (k : Nat), k ≤ nc ∧ s12 = .int .i64 k ∧ Sl (∃ q, wr = w5.drewN q)) (fun s12 _ => nc - (RowKit.intOf s12).toNat)
      case atStart => exact ⟨0, Nat.zero_le _, rfl, ⟨0, rfl⟩⟩
      case round =>
        obtain ⟨k, hk, rfl, HK⟩ := hrel
        by_cases hkn : k < nc
        · have h1r : Reads wr w4.heap.size 2 A3 nc (lc.flatMap cC) := by obtain ⟨q, hq⟩ := HK.out; rw [hq]; exact HR35.out.drewN q
          have h2r : Reads wr w4.heap.size 2 A4 nc (lc.flatMap cC) := by obtain ⟨q, hq⟩ := HK.out; rw [hq]; exact HR45.out.drewN q
          obtain ⟨ad1, p, e1', hp, hc1⟩ := flat_cells h1r (fun _ => rfl) HNS.out.2.1 hkn
          obtain ⟨ad2, p2, e2', hp2, hc2⟩ := flat_cells h2r (fun _ => rfl) HNS.out.2.1 hkn
          have hpp : p2 = p := by rw [hp] at hp2; injection hp2 with hp2; exact hp2.symm
          subst hpp e1' e2'
          have y0 := hc1 0 _ rfl
          have y1 := hc1 1 _ rfl
          have z0 := hc2 0 _ rfl
          have z1 := hc2 1 _ rfl
          rw [addr_z] at y0 z0
          rw [addr_1] at y1 z1
          have hkI : (k : Int) < (nc : Int) := by omega
          obtain ⟨p1, p3⟩ := p2
          simp only [] at y0 y1 z0 z1
          clear hc1 hc2 hp hp2 h1r h2r
          go_wp2_with fail
          go_quiet (fail)
          go_wp2_with fail
          exact ⟨⟨k + 1, hkn, by go_num, ⟨by obtain ⟨q, hq⟩ := HK.out; exact ⟨q + nq, by rw [hq, drew2]⟩⟩⟩, by simp [RowKit.intOf]; omega⟩
        · obtain rfl : k = nc := by omega
          have HB6 : Sl (Below w0.heap.size w0 wr) := ⟨by obtain ⟨q, hq⟩ := HK.out; rw [hq]; exact below_drewN HB5.out q⟩
          clear HR35 HR45 HK HB5
          obtain ⟨k0, k1, k2⟩ := HCE.out wr HB6.out
          go_wp2_with fail
          refine (HD1.out wr (HM.out.below HB6.out)).mono ?_; rintro e w6 ⟨⟨A5, g1, he, hi5⟩, hb⟩
          rw [HLS.out.1, HLS.out.2.2.2, HNS.out.2.2] at he
          rw [HLS.out.2.2.2, HNS.out.2.2] at hi5
          subst he
          have HI5 : Sl _ := ⟨hi5⟩
          have HB7 : Sl (Below w0.heap.size w0 w6) := ⟨HB6.out.trans (hb.mono HB6.out.size)⟩
          clear hb hi5 k0 k1 k2 HB6
          obtain ⟨k0, k1, k2⟩ := HCE.out w6 HB7.out
          go_wp2_with fail
          refine (HD2.out w6 (HM.out.below HB7.out)).mono ?_; rintro e w7 ⟨⟨A6, g2, he, hi6⟩, hb⟩
          rw [HLS.out.1, HLS.out.2.2.2, HNS.out.2.2] at he
          rw [HLS.out.2.2.2, HNS.out.2.2] at hi6
          subst he
          have HSI : Sl _ := ⟨sameInts11_any A5 A6 nd g1 g2 ld w7 (HI5.out.below hb) hi6 (by omega)⟩
          have HB8 : Sl (Below w0.heap.size w0 w7) := ⟨HB7.out.trans (hb.mono HB7.out.size)⟩
          have hrr : (r == r) = true := by simp
          clear hb hi6 k0 k1 k2 HB7 HI5 HD1 HD2
          go_wp2_with fail
          refine HSI.out.mono ?_; rintro e w8 ⟨rfl, m8, rfl⟩
          go_wp2_with fail
          refine (awake11_any _).mono ?_; rintro e w9 ⟨rfl, hb⟩
          have HB9 : Sl (Below w.heap.size w w9) := ⟨by
            have h := HU.out.trans (HB8.out.mono HU.out.size)
            have h2 := below_drewN h m8
            exact h2.trans (hb.mono h2.size)⟩
          clear hb
          go_wp2_with fail
          go_ret
          exact ⟨rfl, HB9.out⟩
end Go.Proofs.YtkjkbhkcebbjdaaGreatDoor
