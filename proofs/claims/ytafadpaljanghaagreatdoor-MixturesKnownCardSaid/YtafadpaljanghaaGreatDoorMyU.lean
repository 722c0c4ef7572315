/- The reference of chapter 11: row. -/
import Derived.Test.YtafadpaljanghaaGreatDoorMyT
import Derived.Deep.RegionWith
namespace Go.Proofs.YtafadpaljanghaaGreatDoor
set_option linter.unusedSimpArgs false
open Go.RowKit
set_option linter.unusedVariables false

theorem infoNt : ∃ i : TypeInfo, Tryz.prog.info? 3 = some i ∧ i.zero = some (.int .i64 0) ∧ i.size = 1 ∧ i.bytes = 8 := by
  have h : (Tryz.prog.info? 3).isSome = true := by kernel_rfl
  obtain ⟨i, hi⟩ := Option.isSome_iff_exists.1 h
  have h1 : (Tryz.prog.info? 3).bind (·.zero) = some (.int .i64 0) := by kernel_rfl
  have h2 : (Tryz.prog.info? 3).map (·.size) = some 1 := by kernel_rfl
  have h3 : (Tryz.prog.info? 3).map (·.bytes) = some 8 := by kernel_rfl
  rw [hi] at h1 h2 h3
  exact ⟨i, hi, by simpa using h1, by simpa using h2, by simpa using h3⟩
theorem xown_alloc {w : World} {base size n : Nat} {e : TypeId} {v : Value} {xs : List Value} (h : w.ownsRow base e size v n xs) (ob : Obj) : (w.alloc ob).ownsRow base e size v n xs := by
  refine ⟨h.1, ?_⟩
  rcases h.2 with h0 | ⟨g, cap, cur, e1, hb, hg, h1⟩
  · exact .inl h0
  · exact .inr ⟨g, cap, cur, e1, hb, (Below.heap_alloc _ _ _ (Blk.lt (t := e) (cs := cur) hg)).trans hg, h1⟩
theorem xown_base {w : World} {base base' size n : Nat} {e : TypeId} {v : Value} {xs : List Value} (h : w.ownsRow base e size v n xs) (hb : base' ≤ base) : w.ownsRow base' e size v n xs := by
  refine ⟨h.1, ?_⟩
  rcases h.2 with h0 | ⟨g, cap, cur, e1, hg, h1⟩
  · exact .inl h0
  · exact .inr ⟨g, cap, cur, e1, Nat.le_trans hb hg, h1⟩
theorem xreads1 (W : World) (T : TypeId) (u : Value) : Reads (W.alloc (.cells #[u] T)) (W.heap.size + 1) 1 (some ⟨W.heap.size, 0, none⟩) 1 [u] := by
  refine ⟨rfl, fun _ => ⟨_, rfl, Nat.lt_succ_self _, fun j u hu => ?_⟩⟩
  have hb := Blk.new W T #[u]
  have e : (⟨W.heap.size, 0, none⟩ : Addr).add j = ⟨W.heap.size, j, none⟩ := by
    unfold Addr.add
    by_cases h : j = 0
    · subst h; simp
    · simp [h]
  rw [e]
  rcases j with _ | j
  · simp at hu; subst hu
    exact (Blk.new W T #[u]).cell 0
  · simp at hu
theorem xbelow_grown {w w1 w' : World} {B sz : Nat} {ob : Obj} {v : Value} {e : TypeId} {n : Nat} {xs : List Value} (hB : Below B w w1) (hs : B ≤ w1.heap.size) (ho : w1.ownsRow B e sz v n xs) (hg : (w1.alloc ob).grownBy w' v.ownBlock) : Below B w w' :=
  (hB.alloc hs ob).grown hg (by simp; omega) (fun k hk => (ho.lt k hk).1)
theorem frL_succ (n : Nat) (f : Nat → Int) : frL (n + 1) f = frL n f ++ [iv (f n)] := by unfold frL; rw [List.range_succ, List.map_append]; rfl
theorem frL_step {n : Nat} {f : Nat → Int} {z : Int} (h : f n = z) : frL (n + 1) f = frL n f ++ [iv z] := by rw [frL_succ, h]
theorem mx_row_frL {x : Mx} {key : Int} {l : List Int} {n : Nat} (h : x.rk (x.at key x.n) = l) (hl : l.length = n) : (x.row key).map iv = frL n fun j => key + gt l j := by
  have hn : (x.row key).length = n := by rw [x.row_len, h, hl]
  rw [frL_of hn]
  refine frL_congr fun j hj => ?_
  have := x.row_at key (j := j) (by rw [h, hl]; exact hj)
  unfold gt at this ⊢
  rw [this, h]
  rfl
set_option maxHeartbeats 6400000 in
set_option maxRecDepth 100000 in
theorem rrow_any (a b : Int) (A : Option Addr) (n c : Nat) (L : List Bk) (key : Int) (w : World) (hM : MXA w A n c L) (hF : (mxO a b L).Fine) (hk1 : a ≤ key) (hk2 : key ≤ b) :
    Calls Tryz.prog 42 #[.agg #[.int .i64 a, .int .i64 b, .slice A n c], .int .i64 key] w fun e w' => (∃ v, e = .returned v ∧ w'.ownsRow w.heap.size 3 1 v ((mxO a b L).row key).length (((mxO a b L).row key).map iv)) ∧ Below w.heap.size w w' := by
  have HU : Sl (Below w.heap.size w (w.alloc (.cells #[.int .i64 a, .int .i64 b, .slice A n c] 34))) := ⟨(Below.refl _ _).alloc (Nat.le_refl _) _⟩
  have HBK : Sl _ := ⟨Blk.new w 34 #[.int .i64 a, .int .i64 b, .slice A n c]⟩
  have HM : Sl _ := ⟨hM.below HU.out⟩
  have hL : L.length = n := hM.mx.len
  have hin := (hF.ord.at_in hk1 hk2).1
  have HATT : Sl (∀ W, MX W A n L → Calls Tryz.prog 65 #[.agg #[.int .i64 a, .int .i64 b, .slice A n c], .int .i64 key] W fun e w' => e = .returned (.int .i64 ((mxO a b L).at key (mxO a b L).n : Nat)) ∧ Below W.heap.size W w') := ⟨fun W h => by
    have := rat_any a b A n c L key W h (by have := hF.n1; rw [mxO_n, hL] at this; omega)
    rw [mxO_n, hL]; exact this⟩
  have HN : Sl (n ≤ 12) := ⟨by have := hF.n1; rw [mxO_n, hL] at this; exact this⟩
  have HKB : Sl (0 ≤ key ∧ key ≤ 127) := ⟨by
    have h1 : 0 ≤ a := hF.a0
    have h2 : b ≤ 127 := hF.b1
    omega⟩
  obtain ⟨i, hi⟩ : ∃ i, (mxO a b L).at key (mxO a b L).n = i := ⟨_, rfl⟩
  rw [hi] at HATT hin
  have hil : i < n := by rw [mxO_n, hL] at hin; exact hin
  obtain ⟨bk, hbk⟩ : ∃ bk, L[i]? = some bk := ⟨_, List.getElem?_eq_getElem (by rw [hL]; exact hil)⟩
  have HB : Sl _ := ⟨hbk⟩
  have hrl := hM.mx.rk bk (List.mem_of_getElem? hbk)
  have h8 : bk.n ≤ 8 := by
    have := hF.k1 i hin
    rw [(mxO_at hbk).2, hrl.1] at this; exact this
  have HRG : Sl (∀ j, j < bk.n → -24 ≤ gt bk.l j ∧ gt bk.l j ≤ 72) := ⟨fun j hj => by
    have := hF.rg i hin j (by rw [(mxO_at hbk).2, hrl.1]; exact hj)
    rw [(mxO_at hbk).2] at this; exact this⟩
  have HROW : Sl (((mxO a b L).row key).map iv = frL bk.n fun j => key + gt bk.l j) := ⟨mx_row_frL (by rw [hi, (mxO_at hbk).2]) hrl.1⟩
  have HRL : Sl (((mxO a b L).row key).length = bk.n) := ⟨by rw [Mx.row_len, hi, (mxO_at hbk).2, hrl.1]⟩
  rw [HROW.out, HRL.out]
  clear hM hF hk1 hk2 hi hin hbk hrl hL HROW HRL
  obtain ⟨i0, hi0, hz0, hz1, hz2⟩ := infoNt
  have HI : Sl _ := ⟨And.intro hi0 (And.intro hz0 (And.intro hz1 hz2))⟩
  clear hi0 hz0 hz1 hz2
  have hilI : (i : Int) < (n : Int) := by omega
  go_enter Tryz.func42, Tryz.ntmps42
  go_wp2_with fail
  generalize w.alloc (.cells #[.int .i64 a, .int .i64 b, .slice A n c] 34) = w0 at *
  obtain ⟨fr, BA, bn, bc, bl⟩ := bk
  simp only [] at h8 HRG ⊢
  have HCF : Sl (∀ W, Below w0.heap.size w0 W → (W.cell? ⟨w.heap.size, 0, none⟩ = some (.int .i64 a) ∧ W.cell? ⟨w.heap.size, 1, none⟩ = some (.int .i64 b) ∧ W.cell? ⟨w.heap.size, 2, none⟩ = some (.slice A n c)) ∧ ∃ ad, A = some ad ∧ W.cell? ⟨(ad.add (i * 2)).block, (ad.add (i * 2)).off + 1, none⟩ = some (.slice BA bn bc)) := ⟨fun W h => by
    have hb := HBK.out.below h HBK.out.lt
    have c0 := hb.cell 0
    have c1 := hb.cell 1
    have c2 := hb.cell 2
    simp at c0 c1 c2
    obtain ⟨ad, e, _, _, e2⟩ := (HM.out.below h).mx.cells2 HB.out
    exact ⟨⟨c0, c1, c2⟩, ad, e, e2⟩⟩
  obtain ⟨⟨c0, c1, c2⟩, ad, rfl, e2⟩ := HCF.out w0.drew (below_drewN (Below.refl _ _) 1)
  have hs : RowKit.Below w0.heap.size w0 w0.drew := below_drewN (Below.refl _ _) 1
  go_region_with (first
    | (go_at_call 65; (with_reducible refine (HATT.out _ (HM.out.mx.below hs)).mono ?_); rintro e w3 ⟨rfl, hb⟩; replace hs := hs.trans (hb.mono hs.size); clear hb; obtain ⟨⟨d0, d1, d2⟩, ad', ee, d3⟩ := HCF.out w3 hs; injection ee with ee; subst ee)
    | fail)
  all_goals (
    have HII : Sl (II w3 BA bn bl) := ⟨(HM.out.below hs).mx.rk _ (List.mem_of_getElem? HB.out)⟩
    have HW : Sl (Below w.heap.size w w3) := ⟨HU.out.trans (hs.mono HU.out.size)⟩
    clear HATT HCF hs c0 c1 c2 e2 d0 d1 d2 d3 HM HB HBK
    go_wp2_with fail
    go_loopw [6, 7] (fun s6 s7 wr => ∃ (k : Nat) (v : Value), k ≤ bn ∧ s7 = .int .i64 k ∧ v = s6 ∧ Sl (wr.ownsRow w3.heap.size 3 1 v k (frL k fun j => key + gt bl j) ∧ Below w3.heap.size w3 wr)) (fun _ s7 _ => bn - (RowKit.intOf s7).toNat)
    case atStart => exact ⟨0, _, Nat.zero_le _, rfl, rfl, ⟨World.ownsRow_nil _ _ _ _, Below.refl _ _⟩⟩
    case round =>
      obtain ⟨k, v, hk, rfl, rfl, HK⟩ := hrel
      by_cases hkn : k < bn
      · have HIr : Sl (II wr BA bn bl) := ⟨HII.out.below HK.out.2⟩
        obtain ⟨ad2, rfl, hab, cc⟩ := HIr.out.cell (j := k) hkn
        have hkI : (k : Int) < (bn : Int) := by omega
        have hrg := HRG.out k hkn
        have hkb := HKB.out
        obtain ⟨z, hz⟩ : ∃ z, gt bl k = z := ⟨_, rfl⟩
        rw [hz] at cc hrg
        have HZ : Sl _ := ⟨hz⟩
        clear hz hab
        have hw : IntKind.i64.wrap (key + z) = key + z := by rw [IntKind.wrap_i64]; omega
        go_wp2_with (at_builtin; go_loud (refine wpList_append_any _ rfl (.tmp 22) (.tmp 29) _ rfl w3.heap.size 3 i0 _ 1 8 Tryz.underlying36 HI.out.1 HI.out.2.1 HI.out.2.2.1 HI.out.2.2.2 rfl (by decide) v k _ rfl (xown_alloc HK.out.1 _) _ (some ⟨wr.heap.size, 0, none⟩) 1 1 [.int .i64 (key + z)] rfl (xreads1 _ _ _) (by intro u hu; simp at hu; subst hu; rfl) (by unfold maxLen; omega) (by omega) (by have := HK.out.2.size; simp; omega) ?_); rintro v6 wN hown hg hat; have XQ : Sl (wN.ownsRow w3.heap.size 3 1 v6 (k + 1) (frL (k + 1) fun j => key + gt bl j)) := ⟨by rw [frL_step (z := key + z) (by show key + gt bl k = _; rw [HZ.out])]; exact hown⟩; have HLN : Sl (Below w3.heap.size w3 wN) := ⟨xbelow_grown HK.out.2 HK.out.2.size HK.out.1 hg⟩; clear hown hg hat)
        exact ⟨⟨k + 1, v6, hkn, by go_num, rfl, ⟨XQ.out, HLN.out⟩⟩, by simp [RowKit.intOf]; omega⟩
      · obtain rfl : k = bn := by omega
        go_wp2_with fail
        go_ret
        exact ⟨⟨_, rfl, xown_base HK.out.1 HW.out.size⟩, HW.out.trans (HK.out.2.mono HW.out.size)⟩)
end Go.Proofs.YtafadpaljanghaaGreatDoor
