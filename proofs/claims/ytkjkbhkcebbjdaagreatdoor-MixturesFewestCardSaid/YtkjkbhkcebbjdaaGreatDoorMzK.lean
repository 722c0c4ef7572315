/- The law MixturesSums walks to true. -/
import Derived.Test.YtkjkbhkcebbjdaaGreatDoorMzH
import Derived.Test.YtkjkbhkcebbjdaaGreatDoorMyV
import Derived.Test.YtkjkbhkcebbjdaaGreatDoorMzA
namespace Go.Proofs.YtkjkbhkcebbjdaaGreatDoor
set_option linter.unusedSimpArgs false
open Go.RowKit
set_option linter.unusedVariables false

theorem flatS_get {α : Type} (f : α → List Value) (sz : Nat) (hf : ∀ p, (f p).length = sz) : ∀ (l : List α) (i : Nat) (p : α) (t : Nat), l[i]? = some p → t < sz → (l.flatMap f)[i * sz + t]? = (f p)[t]?
  | [], i, p, t, h, _ => by cases h
  | y :: l, 0, p, t, h, ht => by
    have : y = p := by simpa using h
    subst this
    rw [Nat.zero_mul, Nat.zero_add, List.flatMap_cons, List.getElem?_append_left (by rw [hf]; exact ht)]
  | y :: l, i+1, p, t, h, ht => by
    have h1 : l[i]? = some p := by simpa using h
    rw [List.flatMap_cons, List.getElem?_append_right (by rw [hf, Nat.succ_mul]; omega), hf, show (i + 1) * sz + t - sz = i * sz + t by rw [Nat.succ_mul]; omega]
    exact flatS_get f sz hf l i p t h1 ht
theorem flatS_cells {w : World} {B sz n : Nat} {A : Option Addr} {α : Type} {f : α → List Value} {l : List α} (h : Reads w B sz A n (l.flatMap f)) (hf : ∀ p, (f p).length = sz) (hl : l.length = n) {i : Nat} (hi : i < n) :
    ∃ ad p, A = some ad ∧ l[i]? = some p ∧ ∀ t u, (f p)[t]? = some u → w.cell? ((ad.add (i * sz)).add t) = some u := by
  obtain ⟨ad, e, hb, hc⟩ := h.2 (by omega)
  refine ⟨ad, l[i]'(by omega), e, List.getElem?_eq_getElem (by omega), fun t u ht => ?_⟩
  have htl : t < sz := by
    rcases Nat.lt_or_ge t sz with h | h
    · exact h
    · rw [List.getElem?_eq_none (by rw [hf]; exact h)] at ht; cases ht
  rw [add_of_add]
  refine hc _ _ ?_
  rw [flatS_get f sz hf l i _ t (List.getElem?_eq_getElem (by omega)) htl]
  exact ht
theorem addrS_1 (ad : Addr) : ad.add 1 = ⟨ad.block, ad.off + 1, none⟩ := by simp [Addr.add]
theorem addrS_2 (ad : Addr) : ad.add 2 = ⟨ad.block, ad.off + 2, none⟩ := by simp [Addr.add]
theorem sumT_take : ∀ (l : List (Nat × Nat)) (k : Nat) (p : Nat × Nat), l[k]? = some p → sumT (l.take (k + 1)) = sumT (l.take k) + p.2
  | [], k, p, h => by cases h
  | (v, t) :: l, 0, p, h => by
    have : (v, t) = p := by simpa using h
    subst this
    simp [sumT]
  | (v, t) :: l, k+1, p, h => by
    have h1 : l[k]? = some p := by simpa using h
    rw [List.take_succ_cons, List.take_succ_cons, sumT, sumT, sumT_take l k p h1]; omega
theorem sumK_take (j : Nat) : ∀ (l : List (Int × Nat × Int)) (k : Nat) (p : Int × Nat × Int), l[k]? = some p → sumK j (l.take (k + 1)) = sumK j (l.take k) + (if p.2.1 = j then p.2.2 else 0)
  | [], k, p, h => by cases h
  | (u, v, t) :: l, 0, p, h => by
    have : (u, v, t) = p := by simpa using h
    subst this
    simp [sumK]
  | (u, v, t) :: l, k+1, p, h => by
    have h1 : l[k]? = some p := by simpa using h
    rw [List.take_succ_cons, List.take_succ_cons, sumK, sumK, sumK_take j l k p h1]; omega
theorem Mx.Fine.counts_bd {x : Mx} (h : x.Fine) : ∀ n, ∀ p ∈ x.counts n, p.2 ≤ 488
  | 0, p, hp => by cases hp
  | n+1, p, hp => by
    rw [Mx.counts] at hp
    have hc := h.cnt_le (n : Int) x.keys (Nat.le_refl _)
    have hk := h.keys_pos
    split at hp
    · rcases List.mem_append.1 hp with hp | hp
      · exact h.counts_bd n p hp
      · simp at hp; subst hp
        show x.cnt (n : Int) x.keys ≤ 488
        omega
    · exact h.counts_bd n p hp
theorem stepsL_bd {key : Int} {p q : List Int} {m : Nat} (hp : ∀ j, j < m → -24 ≤ gt p j ∧ gt p j ≤ 72) (hq : ∀ j, j < m → -24 ≤ gt q j ∧ gt q j ≤ 72) : ∀ k, k ≤ m → ∀ s ∈ stepsL key p q k, -96 ≤ s.2.2 ∧ s.2.2 ≤ 96
  | 0, _, s, hs => by cases hs
  | k+1, hk, s, hs => by
    rw [stepsL] at hs
    have h1 := hp k (by omega)
    have h2 := hq k (by omega)
    split at hs
    · exact stepsL_bd hp hq k (by omega) s hs
    · rcases List.mem_append.1 hs with hs | hs
      · exact stepsL_bd hp hq k (by omega) s hs
      · simp at hs; subst hs
        show -96 ≤ gt q k - gt p k ∧ gt q k - gt p k ≤ 96
        omega
theorem Mx.Fine.steps_bd {x : Mx} (h : x.Fine) : ∀ i, i + 1 ≤ x.n → ∀ s ∈ x.steps i, -96 ≤ s.2.2 ∧ s.2.2 ≤ 96
  | 0, _, s, hs => by cases hs
  | i+1, hi, s, hs => by
    rw [Mx.steps] at hs
    rcases List.mem_append.1 hs with hs | hs
    · exact h.steps_bd i (by omega) s hs
    · exact stepsL_bd (m := min (x.rk i).length (x.rk (i + 1)).length) (fun j hj => h.rg i (by omega) j (by omega)) (fun j hj => h.rg (i + 1) (by omega) j (by omega)) _ (Nat.le_refl _) s hs
/-- the least number of ranks of the first k breaks -/
def Mx.lst (x : Mx) : Nat → Nat
  | 0 => 8
  | k+1 => min (x.lst k) (x.rk k).length
theorem Mx.lst_le (x : Mx) : ∀ k j, j < k → x.lst k ≤ (x.rk j).length
  | 0, j, h => absurd h (Nat.not_lt_zero _)
  | k+1, j, h => by
    rw [Mx.lst]
    rcases Nat.lt_or_ge j k with h1 | h1
    · have := x.lst_le k j h1; omega
    · rw [show j = k by omega]; omega
theorem Mx.lst_8 (x : Mx) : ∀ k, x.lst k ≤ 8
  | 0 => Nat.le_refl _
  | k+1 => by rw [Mx.lst]; have := x.lst_8 k; omega
theorem Mx.Fine.lens_le {x : Mx} (h : x.Fine) : ∀ k, k ≤ x.keys → x.lens k ≤ 8 * k
  | 0, _ => Nat.le_refl _
  | k+1, hk => by
    have h1 := h.lens_le k (by omega)
    have h3 := h.key_in (k := k) (by omega)
    have h4 := h.k1 _ (h.ord.at_in h3.1 h3.2).1
    rw [Mx.lens, x.row_len]; omega
set_option maxHeartbeats 12800000 in
set_option maxRecDepth 100000 in
theorem mixturesSums_any (a b : Int) (A : Option Addr) (n c : Nat) (L : List Bk) (w : World) (hM : MXA w A n c L) (ha : i64 a) (hb : i64 b) :
    Calls Tryz.prog 6 #[.agg #[.int .i64 a, .int .i64 b, .slice A n c]] w fun e w' => e = .returned (.bool true) ∧ Below w.heap.size w w' := by
  have HU : Sl (Below w.heap.size w (w.alloc (.cells #[.int .i64 a, .int .i64 b, .slice A n c] 24))) := ⟨(Below.refl _ _).alloc (Nat.le_refl _) _⟩
  have HBK : Sl _ := ⟨Blk.new w 24 #[.int .i64 a, .int .i64 b, .slice A n c]⟩
  have HM : Sl _ := ⟨hM.below HU.out⟩
  have HL : Sl (L.length = n) := ⟨hM.mx.len⟩
  have HCK : Sl _ := ⟨fun (W : World) (h : MXA W A n c L) => rCheck_any a b A n c L W h ha hb⟩
  have HS1 : Sl _ := ⟨fun (W : World) (h : MXA W A n c L) => Steps_any a b A n c L W h ha hb⟩
  have HC1 : Sl _ := ⟨fun (W : World) (h : MXA W A n c L) => Counts_any a b A n c L W h ha hb⟩
  have HR1 : Sl _ := ⟨fun (W : World) (h : MXA W A n c L) (key : Int) => Row_any a b A n c L key W h ha hb⟩
  clear hM ha hb
  obtain ⟨x, hx⟩ : ∃ x, mxO a b L = x := ⟨_, rfl⟩
  rw [hx] at HCK HS1 HC1 HR1
  have HX : Sl _ := ⟨hx⟩
  clear hx
  obtain ⟨r, hr⟩ : ∃ r, x.chk = r := ⟨_, rfl⟩
  rw [hr] at HCK
  have HR : Sl _ := ⟨hr⟩
  clear hr
  go_enter Tryz.func6, Tryz.ntmps6
  go_wp2_with fail
  generalize w.alloc (.cells #[.int .i64 a, .int .i64 b, .slice A n c] 24) = w0 at *
  have HCE : Sl (∀ W, Below w0.heap.size w0 W → W.cell? ⟨w.heap.size, 0, none⟩ = some (.int .i64 a) ∧ W.cell? ⟨w.heap.size, 1, none⟩ = some (.int .i64 b) ∧ W.cell? ⟨w.heap.size, 2, none⟩ = some (.slice A n c)) := ⟨fun W h => by
    have e := HBK.out.below h HBK.out.lt
    exact ⟨by rw [e.cell]; rfl, by rw [e.cell]; rfl, by rw [e.cell]; rfl⟩⟩
  refine (HCK.out w0 HM.out).mono ?_; rintro e w1 ⟨rfl, hb⟩
  have HB : Sl (Below w0.heap.size w0 w1) := ⟨hb⟩
  clear hb HCK
  by_cases h0 : r = 0
  · have h0b : (r != 0) = false := by rw [h0]; rfl
    have HCH : Sl (x.chk = 0) := ⟨by rw [HR.out, h0]⟩
    have HF : Sl x.Fine := ⟨Mx.fine (Mx.chk_ok HCH.out).1⟩
    have HS : Sl (x.snd = false) := ⟨(Mx.chk_ok HCH.out).2⟩
    have HA : Sl (x.a = a ∧ x.b = b) := ⟨by rw [← HX.out]; exact ⟨rfl, rfl⟩⟩
    have HAB : Sl (0 ≤ a ∧ b ≤ 127 ∧ a ≤ b) := ⟨by rw [← HA.out.1, ← HA.out.2]; exact ⟨HF.out.a0, HF.out.b1, HF.out.ab⟩⟩
    have HKY : Sl (x.keys = (b - a + 1).toNat) := ⟨by unfold Mx.keys; rw [HA.out.1, HA.out.2]⟩
    have HXN : Sl (x.n = n) := ⟨by rw [← HX.out, mxO_n, HL.out]⟩
    have HN : Sl (0 < n ∧ n ≤ 12) := ⟨by have h1 := HF.out.ord.pos; have h2 := HF.out.n1; rw [HXN.out] at h1 h2; exact ⟨h1, h2⟩⟩
    clear HR
    obtain ⟨lc, hlc⟩ : ∃ l, x.cnts = l := ⟨_, rfl⟩
    obtain ⟨ls, hls⟩ : ∃ l, x.stps = l := ⟨_, rfl⟩
    have HLC : Sl (x.cnts = lc ∧ lc = x.counts 140 ∧ lc.length ≤ 140 ∧ (∀ p ∈ lc, p.2 ≤ 488) ∧ sumT lc = x.lens x.keys) := ⟨by
      have e : lc = x.counts 140 := by rw [← hlc]; unfold Mx.cnts; rw [if_pos HCH.out]
      refine ⟨hlc, e, by rw [e]; exact x.counts_len 140, by rw [e]; exact HF.out.counts_bd 140, by rw [e]; exact HF.out.sum_counts HS.out⟩⟩
    have HLS : Sl (x.stps = ls ∧ ls = x.steps (n - 1) ∧ ls.length ≤ 100 ∧ ∀ s ∈ ls, -96 ≤ s.2.2 ∧ s.2.2 ≤ 96) := ⟨by
      have e : ls = x.steps (n - 1) := by rw [← hls]; unfold Mx.stps; rw [if_pos HCH.out, HXN.out]
      have hn := HN.out
      refine ⟨hls, e, ?_, by rw [e]; exact HF.out.steps_bd (n - 1) (by rw [HXN.out]; omega)⟩
      rw [e]
      have := HF.out.steps_len (n - 1) (by rw [HXN.out]; omega)
      omega⟩
    clear hlc hls
    obtain ⟨nc, hnc⟩ : ∃ n, lc.length = n := ⟨_, rfl⟩
    obtain ⟨ns, hns⟩ : ∃ n, ls.length = n := ⟨_, rfl⟩
    have HNN : Sl (lc.length = nc ∧ ls.length = ns) := ⟨hnc, hns⟩
    have hnc140 : nc ≤ 140 := by rw [← hnc]; exact HLC.out.2.2.1
    have hns100 : ns ≤ 100 := by rw [← hns]; exact HLS.out.2.2.1
    clear hnc hns
    obtain ⟨k0, k1, k2⟩ := HCE.out w1 HB.out
    go_wp2_with fail
    refine (HC1.out w1 (HM.out.below HB.out)).mono ?_; rintro e w2 ⟨⟨A3, e1, he, hr3⟩, hb⟩
    rw [HCH.out, HLC.out.1, HNN.out.1] at he
    rw [HLC.out.1, HNN.out.1] at hr3
    subst he
    replace HB : Sl (Below w0.heap.size w0 w2) := ⟨HB.out.trans (hb.mono HB.out.size)⟩
    have HR3 : Sl _ := ⟨hr3⟩
    clear hb hr3 k0 k1 k2
    obtain ⟨k0, k1, k2⟩ := HCE.out w2 HB.out
    go_wp2_with fail
    refine (HS1.out w2 (HM.out.below HB.out)).mono ?_; rintro e w3 ⟨⟨A1, c1, he, hr1⟩, hb⟩
    rw [HCH.out, HLS.out.1, HNN.out.2] at he
    rw [HLS.out.1, HNN.out.2] at hr1
    subst he
    replace HB : Sl (Below w0.heap.size w0 w3) := ⟨HB.out.trans (hb.mono HB.out.size)⟩
    replace HR3 : Sl (Reads w3 w3.heap.size 2 A3 nc (lc.flatMap cC)) := ⟨(HR3.out.below hb).more hb.size⟩
    have HR4 : Sl _ := ⟨hr1⟩
    clear hb hr1 k0 k1 k2 HS1 HC1
    go_wp2_with fail
    go_loopw [7, 8] (fun s7 s8 wr => ∃ (k : Nat), k ≤ nc ∧ s8 = .int .i64 k ∧ s7 = .int .i64 (sumT (lc.take k) : Nat) ∧ sumT (lc.take k) ≤ 488 * k ∧ Sl (w3 = wr)) (fun _ s8 _ => nc - (RowKit.intOf s8).toNat)
    case atStart => exact ⟨0, Nat.zero_le _, rfl, rfl, Nat.zero_le _, ⟨rfl⟩⟩
    case round =>
      obtain ⟨k, hk, rfl, rfl, hsb, HW⟩ := hrel
      have hww := HW.out
      subst hww
      by_cases hkn : k < nc
      · obtain ⟨ad, p, rfl, hp, hc⟩ := flatS_cells HR3.out (fun _ => rfl) HNN.out.1 hkn
        have y1 := hc 1 _ rfl
        rw [addrS_1] at y1
        have hpb := HLC.out.2.2.2.1 p (List.mem_of_getElem? hp)
        have HST : Sl (sumT (lc.take (k + 1)) = sumT (lc.take k) + p.2) := ⟨sumT_take lc k p hp⟩
        obtain ⟨p1, p2⟩ := p
        simp only [] at y1 hpb HST
        have hkI : (k : Int) < (nc : Int) := by omega
        obtain ⟨s, hs⟩ : ∃ s, sumT (lc.take k) = s := ⟨_, rfl⟩
        rw [hs] at hsb HST ⊢
        clear hc hp hs
        go_wp2_with fail
        exact ⟨⟨k + 1, hkn, by go_num, by rw [HST.out]; first | rfl | go_num, by rw [HST.out]; omega, ⟨by first | rfl | trivial⟩⟩, by simp [RowKit.intOf]; omega⟩
      · obtain rfl : k = nc := by omega
        have HSM : Sl (sumT (lc.take k) = x.lens x.keys) := ⟨by rw [List.take_of_length_le (by rw [HNN.out.1]; exact Nat.le_refl _)]; exact HLC.out.2.2.2.2⟩
        rw [HSM.out]
        have HLE : Sl (x.lens x.keys ≤ 488) := ⟨by have := HF.out.lens_le x.keys (Nat.le_refl _); have := HF.out.keys_pos; omega⟩
        clear hsb hk hkn HR3
        go_wp2_with fail
        go_loopw [9, 10] (fun s9 s10 wr => ∃ (k : Nat), k ≤ n ∧ s10 = .int .i64 k ∧ s9 = .int .i64 (x.lst k : Nat) ∧ Sl (w3 = wr)) (fun _ s10 _ => n - (RowKit.intOf s10).toNat)
        case atStart => exact ⟨0, Nat.zero_le _, rfl, rfl, ⟨rfl⟩⟩
        case round =>
          obtain ⟨k, hk, rfl, rfl, HW⟩ := hrel
          have hww := HW.out
          subst hww
          have hn12 := HN.out.2
          obtain ⟨k0, k1, k2⟩ := HCE.out w3 HB.out
          by_cases hkn : k < n
          · obtain ⟨bk, hbk⟩ : ∃ bk, L[k]? = some bk := ⟨_, List.getElem?_eq_getElem (by rw [HL.out]; exact hkn)⟩
            have hMX := (HM.out.below HB.out).mx
            obtain ⟨ad, rfl, _, q1, q2⟩ := hMX.cells2 hbk
            have HRL : Sl ((x.rk k).length = bk.n) := ⟨by rw [← HX.out, (mxO_at hbk).2]; exact (hMX.rk bk (List.mem_of_getElem? hbk)).1⟩
            have hkI : (k : Int) < (n : Int) := by omega
            obtain ⟨s, hs⟩ : ∃ s, x.lst k = s := ⟨_, rfl⟩
            have HLT : Sl (x.lst (k + 1) = min s bk.n) := ⟨by rw [Mx.lst, HRL.out, hs]⟩
            rw [hs]
            obtain ⟨s2, hs2⟩ : ∃ s2, min s bk.n = s2 := ⟨_, rfl⟩
            rw [hs2] at HLT
            have hmi : min (s : Int) (bk.n : Int) = (s2 : Int) := by rw [← hs2]; omega
            obtain ⟨bf, BA, bn, bc, bl⟩ := bk
            simp only [] at q2 hmi
            clear hbk hs hs2 q1 hMX
            go_wp2_with fail
            exact ⟨⟨k + 1, hkn, by go_num, by rw [HLT.out], ⟨by first | rfl | trivial⟩⟩, by simp [RowKit.intOf]; omega⟩
          · obtain rfl : k = n := by omega
            clear hk hkn
            have hlen8 := x.lst_8 k
            obtain ⟨le, hle⟩ : ∃ le, x.lst k = le := ⟨_, rfl⟩
            have HLST : Sl _ := ⟨hle⟩
            rw [hle] at hlen8 ⊢
            clear hle
            obtain ⟨sm, hsm⟩ : ∃ sm, x.lens x.keys = sm := ⟨_, rfl⟩
            have HSMM : Sl _ := ⟨hsm⟩
            rw [hsm] at HLE ⊢
            clear hsm
            have hsm488 := HLE.out
            go_wp2_with fail
            clear k0 k1 k2
            go_loopw [7, 11, 12, 13] (fun s7 s11 s12 s13 wr => ∃ (t : Nat) (v12 v13 : Value), t ≤ x.keys ∧ s11 = .int .i64 (a + (t : Int)) ∧ s7 = .int .i64 ((sm : Int) - (x.lens t : Nat)) ∧ s12 = v12 ∧ s13 = v13 ∧ Sl (Below w0.heap.size w0 wr ∧ Below w3.heap.size w3 wr)) (fun _ s11 _ _ _ => (b + 1 - RowKit.intOf s11).toNat)
            case atStart => exact ⟨0, _, _, Nat.zero_le _, by go_num, by go_num, rfl, rfl, ⟨HB.out, Below.refl _ _⟩⟩
            case round =>
              obtain ⟨t, v12, v13, ht, rfl, rfl, rfl, rfl, HQ⟩ := hrel
              obtain ⟨k0, k1, k2⟩ := HCE.out wr HQ.out.1
              have hab := HAB.out
              have hkey := HKY.out
              by_cases htk : t < x.keys
              · have hkb : a + (t : Int) ≤ b := by omega
                obtain ⟨key, hkk⟩ : ∃ key, a + (t : Int) = key := ⟨_, rfl⟩
                have hk2 : key ≤ b := by rw [← hkk]; exact hkb
                have hka : a ≤ key := by omega
                have HKE : Sl (x.key t = key) := ⟨by unfold Mx.key; rw [HA.out.1]; exact hkk⟩
                have hre : x.rerr key = 0 := Mx.rerr_c HCH.out (by rw [HA.out.1, HA.out.2]; omega)
                have hrs : x.rows key = x.row key := by unfold Mx.rows; rw [if_pos hre]
                have HRE : Sl (x.rerr key = 0 ∧ (x.rows key).length = (x.row (x.key t)).length) := ⟨hre, by rw [hrs, HKE.out]⟩
                have HLN : Sl (x.lens (t + 1) = x.lens t + (x.row (x.key t)).length) := ⟨rfl⟩
                have hl1 := HF.out.lens_le (t + 1) htk
                have hkp := HF.out.keys_pos
                rw [HLN.out] at hl1
                obtain ⟨rl, hrl⟩ : ∃ rl, (x.row (x.key t)).length = rl := ⟨_, rfl⟩
                obtain ⟨lt, hlt⟩ : ∃ lt, x.lens t = lt := ⟨_, rfl⟩
                rw [hrl, hlt] at HLN hl1
                rw [hrl] at HRE
                rw [hlt]
                have HKT : Sl _ := ⟨hkk⟩
                have hlt488 : lt + rl ≤ 488 := by omega
                clear hre hrs hrl hlt hl1 hkp hkb
                rw [hkk]
                clear hkk
                have hkd : decide (key ≤ b) = true := decide_eq_true hk2
                clear htk hkey
                go_wp2_with fail
                refine (HR1.out wr (HM.out.below HQ.out.1) key).mono ?_; rintro e w5 ⟨⟨A5, c5, he, hi5⟩, hb⟩
                rw [HRE.out.1, HRE.out.2] at he
                subst he
                have HQ5 : Sl (Below w0.heap.size w0 w5 ∧ Below w3.heap.size w3 w5) := ⟨HQ.out.1.trans (hb.mono HQ.out.1.size), HQ.out.2.trans (hb.mono HQ.out.2.size)⟩
                clear hi5 hb k0 k1 k2
                have hkr : 0 ≤ key ∧ key ≤ 127 := by omega
                have hws : IntKind.i64.wrap ((sm : Int) - (lt : Int) - (rl : Int)) = (sm : Int) - (lt : Int) - (rl : Int) := by rw [IntKind.wrap_i64]; omega
                go_wp2_with fail
                exact ⟨⟨t + 1, _, _, by have := HKT.out; have := HKY.out; omega, by have := HKT.out; congr 1; omega, by rw [HLN.out]; congr 1; omega, rfl, rfl, HQ5⟩, by have := HKT.out; simp [RowKit.intOf]; omega⟩
              · obtain rfl : t = x.keys := by omega
                rw [HSMM.out, Int.sub_self]
                obtain ⟨m, hm⟩ : ∃ m, k = m + 1 := ⟨k - 1, by have := HN.out.1; omega⟩
                subst hm
                obtain ⟨gb, o, hA⟩ : ∃ gb o, A = some ⟨gb, o, none⟩ := by
                  obtain ⟨bk, hbk⟩ : ∃ bk, L[0]? = some bk := ⟨_, List.getElem?_eq_getElem (by rw [HL.out]; omega)⟩
                  obtain ⟨ad, e, h1, h2, _⟩ := HM.out.mx.cells hbk
                  obtain ⟨gb, o, sp⟩ := ad
                  have : sp = none := by
                    cases sp with
                    | none => rfl
                    | some s =>
                      unfold World.cell? at h2
                      simp [Addr.add] at h2
                      split at h2
                      · cases h2
                      · cases h2
                  subst this
                  exact ⟨gb, o, e⟩
                subst hA
                have HCB : Sl (∀ (W : World) (i : Nat) (q : Bk), Below w0.heap.size w0 W → L[i]? = some q → W.cell? ⟨gb, o + i * 2 + 1, none⟩ = some (.slice q.A q.n q.c) ∧ II W q.A q.n q.l) := ⟨fun W i q h hq => by
                  obtain ⟨ad, e, _, h1, h2⟩ := (HM.out.below h).mx.cells hq
                  injection e with e
                  subst e
                  have e : ∀ k : Nat, (⟨gb, o, none⟩ : Addr).add k = ⟨gb, o + k, none⟩ := fun k => by
                    unfold Addr.add
                    by_cases h : k = 0
                    · subst h; simp
                    · simp [h]
                  rw [e] at h2
                  exact ⟨h2, (HM.out.below h).mx.rk q (List.mem_of_getElem? hq)⟩⟩
                obtain ⟨p, hp⟩ : ∃ p, L[0]? = some p := ⟨_, List.getElem?_eq_getElem (by rw [HL.out]; omega)⟩
                obtain ⟨q, hq⟩ : ∃ q, L[m]? = some q := ⟨_, List.getElem?_eq_getElem (by rw [HL.out]; omega)⟩
                have HP : Sl (∀ W, Below w0.heap.size w0 W → W.cell? ⟨gb, o + 1, none⟩ = some (.slice p.A p.n p.c) ∧ II W p.A p.n p.l) := ⟨fun W h => by
                  have := HCB.out W 0 p h hp
                  simpa using this⟩
                have HQL : Sl (∀ W, Below w0.heap.size w0 W → W.cell? ⟨gb, o + m * 2 + 1, none⟩ = some (.slice q.A q.n q.c) ∧ II W q.A q.n q.l) := ⟨fun W h => HCB.out W m q h hq⟩
                have HRK : Sl (x.rk 0 = p.l ∧ x.rk m = q.l) := ⟨by rw [← HX.out]; exact ⟨(mxO_at hp).2, (mxO_at hq).2⟩⟩
                have hlp : le ≤ p.n := by
                  have h1 := x.lst_le (m + 1) 0 (by omega)
                  rw [HLST.out, HRK.out.1, (HP.out wr HQ.out.1).2.1] at h1
                  exact h1
                have hlq : le ≤ q.n := by
                  have h1 := x.lst_le (m + 1) m (by omega)
                  rw [HLST.out, HRK.out.2, (HQL.out wr HQ.out.1).2.1] at h1
                  exact h1
                have HSK : Sl (∀ k, k < le → sumK k ls = gt q.l k - gt p.l k ∧ (-24 ≤ gt p.l k ∧ gt p.l k ≤ 72) ∧ (-24 ≤ gt q.l k ∧ gt q.l k ≤ 72)) := ⟨fun k hk => by
                  have hb : ∀ j, j ≤ m → k < (x.rk j).length := fun j hj => Nat.lt_of_lt_of_le (by rw [HLST.out]; exact hk) (x.lst_le (m + 1) j (by omega))
                  have h1 := x.steps_sum m hb
                  have h2 := HF.out.rg 0 (by rw [HXN.out]; omega) k (hb 0 (by omega))
                  have h3 := HF.out.rg m (by rw [HXN.out]; omega) k (hb m (by omega))
                  rw [HRK.out.1] at h2
                  rw [HRK.out.2] at h3
                  rw [HRK.out.1, HRK.out.2] at h1
                  exact ⟨by rw [HLS.out.2.1]; exact h1, h2, h3⟩⟩
                have q2 := (HQL.out wr HQ.out.1).1
                clear hp hq HCB
                obtain ⟨pf, PA, pn, pc, pl⟩ := p
                obtain ⟨qf, QA, qn, qc, ql⟩ := q
                simp only [] at q2 HP HQL hlp hlq HSK HRK
                have hab2 : ¬ (a + (x.keys : Int) ≤ b) := by omega
                have hkd : decide (a + (x.keys : Int) ≤ b) = false := decide_eq_false hab2
                have hm12 : m ≤ 11 := by have := HN.out.2; omega
                have hwa : IntKind.i64.wrap (m : Int) = (m : Int) := by rw [IntKind.wrap_i64]; omega
                go_wp2_with fail
                clear q2 k0 k1 k2
                go_loopw [15, 16, 17] (fun s15 s16 s17 wr => ∃ (k : Nat) (v16 v17 : Value), k ≤ le ∧ s15 = .int .i64 k ∧ s16 = v16 ∧ s17 = v17 ∧ Sl (Below w0.heap.size w0 wr ∧ Below w3.heap.size w3 wr)) (fun s15 _ _ _ => le - (RowKit.intOf s15).toNat)
                case atStart => exact ⟨0, _, _, Nat.zero_le _, rfl, rfl, rfl, HQ⟩
                case round =>
                  clear HQ
                  obtain ⟨k, v16, v17, hk, rfl, rfl, rfl, HQ⟩ := hrel
                  by_cases hkl : k < le
                  · have hkI : (k : Int) < (le : Int) := by omega
                    go_wp2_with fail
                    go_loopw [16, 17] (fun s16 s17 wr' => ∃ (i : Nat), i ≤ ns ∧ s17 = .int .i64 i ∧ s16 = .int .i64 (sumK k (ls.take i)) ∧ (-96 * (i : Int) ≤ sumK k (ls.take i) ∧ sumK k (ls.take i) ≤ 96 * (i : Int)) ∧ Sl (wr = wr')) (fun _ s17 _ => ns - (RowKit.intOf s17).toNat)
                    case atStart => exact ⟨0, Nat.zero_le _, rfl, rfl, by simp [sumK], ⟨rfl⟩⟩
                    case round =>
                      obtain ⟨i, hi, rfl, rfl, hsb, HW⟩ := hrel
                      have hww := HW.out
                      subst hww
                      by_cases hin : i < ns
                      · obtain ⟨ad, s, rfl, hs, hc⟩ := flatS_cells (HR4.out.below HQ.out.2) (fun _ => rfl) HNN.out.2 hin
                        have y1 := hc 1 _ rfl
                        have y2 := hc 2 _ rfl
                        rw [addrS_1] at y1
                        rw [addrS_2] at y2
                        have hsb2 := HLS.out.2.2.2 s (List.mem_of_getElem? hs)
                        have HST : Sl (sumK k (ls.take (i + 1)) = sumK k (ls.take i) + (if s.2.1 = k then s.2.2 else 0)) := ⟨sumK_take k ls i s hs⟩
                        obtain ⟨s1, s2, s3⟩ := s
                        simp only [] at y1 y2 hsb2 HST
                        have hiI : (i : Int) < (ns : Int) := by omega
                        obtain ⟨z, hz⟩ : ∃ z, sumK k (ls.take i) = z := ⟨_, rfl⟩
                        rw [hz] at hsb HST ⊢
                        clear hc hs hz
                        by_cases hsk : s2 = k
                        · rw [if_pos hsk] at HST
                          subst hsk
                          have hw : IntKind.i64.wrap (z + s3) = z + s3 := by rw [IntKind.wrap_i64]; omega
                          go_wp2_with fail
                          exact ⟨⟨i + 1, hin, by go_num, by rw [HST.out], by rw [HST.out]; omega, ⟨by first | rfl | trivial⟩⟩, by simp [RowKit.intOf]; omega⟩
                        · rw [if_neg hsk, Int.add_zero] at HST
                          have hskb : ((s2 : Int) == (k : Int)) = false := by simp; omega
                          go_wp2_with fail
                          exact ⟨⟨i + 1, hin, by go_num, by rw [HST.out], by rw [HST.out]; omega, ⟨by first | rfl | trivial⟩⟩, by simp [RowKit.intOf]; omega⟩
                      · obtain rfl : i = ns := by omega
                        obtain ⟨hsk, hbp, hbq⟩ := HSK.out k hkl
                        rw [List.take_of_length_le (by rw [HNN.out.2]; exact Nat.le_refl _), hsk]
                        obtain ⟨p2, hip⟩ := HP.out wr HQ.out.1
                        have hiq := (HQL.out wr HQ.out.1).2
                        obtain ⟨ap, hap, _, cp⟩ := hip.cell (j := k) (by omega)
                        obtain ⟨aq, haq, _, cq⟩ := hiq.cell (j := k) (by omega)
                        subst hap haq
                        obtain ⟨zp, hp⟩ : ∃ z, gt pl k = z := ⟨_, rfl⟩
                        obtain ⟨zq, hq⟩ : ∃ z, gt ql k = z := ⟨_, rfl⟩
                        rw [hp, hq]
                        rw [hp] at cp hbp
                        rw [hq] at cq hbq
                        have hw : IntKind.i64.wrap (zq - zp) = zq - zp := by rw [IntKind.wrap_i64]; omega
                        have hkI2 : (k : Int) < (pn : Int) := by omega
                        have hkI3 : (k : Int) < (qn : Int) := by omega
                        have hkn2 : k < pn := by omega
                        have hkn3 : k < qn := by omega
                        obtain ⟨k0, k1, k2⟩ := HCE.out wr HQ.out.1
                        have HQd : Sl (∀ q, Below w0.heap.size w0 (wr.drewN q) ∧ Below w3.heap.size w3 (wr.drewN q)) := ⟨fun q => ⟨below_drewN HQ.out.1 q, below_drewN HQ.out.2 q⟩⟩
                        clear hsk hsb hip hiq hp hq hin hi
                        go_wp2_with fail
                        go_quiet (fail)
                        go_wp2_with fail
                        exact ⟨⟨k + 1, _, _, hkl, by go_num, rfl, rfl, ⟨HQd.out _⟩⟩, by simp [RowKit.intOf]; omega⟩
                  · obtain rfl : k = le := by omega
                    go_wp2_with fail
                    refine (awake11_any wr).mono ?_; rintro e w9 ⟨rfl, hb⟩
                    have HB9 : Sl (Below w.heap.size w w9) := ⟨by
                      have h := HU.out.trans (HQ.out.1.mono HU.out.size)
                      exact h.trans (hb.mono h.size)⟩
                    clear hb
                    go_wp2_with fail
                    go_ret
                    exact ⟨rfl, HB9.out⟩
  · have h0b : (r != 0) = true := by simpa using h0
    go_wp2_with fail
    refine (awake11_any w1).mono ?_; rintro e w9 ⟨rfl, hb⟩
    have HB9 : Sl (Below w.heap.size w w9) := ⟨by
      have h := HU.out.trans (HB.out.mono HU.out.size)
      exact h.trans (hb.mono h.size)⟩
    clear hb
    go_wp2_with fail
    go_ret
    exact ⟨rfl, HB9.out⟩
end Go.Proofs.YtkjkbhkcebbjdaaGreatDoor
