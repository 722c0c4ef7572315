/- Package mixtures: Row. (The two ways behind the search are printed by a program.) -/
import Derived.Test.YtafadpaljanghaaGreatDoorMyR
import Derived.Test.YtafadpaljanghaaGreatDoorMyC
namespace Go.Proofs.YtafadpaljanghaaGreatDoor
set_option linter.unusedSimpArgs false
open Go.RowKit
set_option linter.unusedVariables false

/-- integers told by a function -/
def frL (n : Nat) (f : Nat → Int) : List Value := (List.range n).map fun j => iv (f j)
theorem frL_len (n : Nat) (f : Nat → Int) : (frL n f).length = n := by unfold frL; simp
theorem frL_at {n : Nat} {f : Nat → Int} {j : Nat} (h : j < n) : (frL n f)[j]? = some (iv (f j)) := by
  unfold frL; rw [List.getElem?_map, List.getElem?_range h]; rfl
theorem frL_set (n : Nat) (f : Nat → Int) (k : Nat) (z : Int) : (frL n f).set k (iv z) = frL n (fun j => if j = k then z else f j) := by
  refine List.ext_getElem? fun j => ?_
  rw [List.getElem?_set]
  by_cases hj : j < n
  · rw [frL_at hj]
    by_cases h : k = j
    · subst h; rw [if_pos rfl, if_pos (by rw [frL_len]; exact hj), frL_at hj, if_pos rfl]
    · rw [if_neg h, frL_at hj, if_neg (fun e => h e.symm)]
  · rw [List.getElem?_eq_none (l := frL n fun j => if j = k then z else f j) (by rw [frL_len]; omega)]
    by_cases h : k = j
    · subst h; rw [if_pos rfl, if_neg (by rw [frL_len]; omega)]
    · rw [if_neg h, List.getElem?_eq_none (by rw [frL_len]; omega)]
theorem frL_congr {n : Nat} {f g : Nat → Int} (h : ∀ j, j < n → f j = g j) : frL n f = frL n g := by
  refine List.ext_getElem? fun j => ?_
  by_cases hj : j < n
  · rw [frL_at hj, frL_at hj, h j hj]
  · rw [List.getElem?_eq_none (by rw [frL_len]; omega), List.getElem?_eq_none (by rw [frL_len]; omega)]
theorem frL_of {l : List Int} {n : Nat} (h : l.length = n) : l.map iv = frL n (gt l) := by
  refine List.ext_getElem? fun j => ?_
  rw [List.getElem?_map]
  by_cases hj : j < n
  · rw [frL_at hj, gt_at (by omega)]; rfl
  · rw [List.getElem?_eq_none (by omega), List.getElem?_eq_none (by rw [frL_len]; omega)]; rfl
theorem II.flat {w : World} {A : Option Addr} {n : Nat} {l : List Int} (h : II w A n l) (hn : 0 < n) : ∃ b o, A = some ⟨b, o, none⟩ ∧ b < w.heap.size ∧ ∀ j, j < l.length → w.cell? ⟨b, o + j, none⟩ = some (.int .i64 (l.getD j 0)) := by
  obtain ⟨ad, rfl, hb, c0⟩ := h.cell hn
  obtain ⟨b, o, s⟩ := ad
  have hs : s = none := by
    cases s with
    | none => rfl
    | some s =>
      have e : (⟨b, o, some s⟩ : Addr).add 0 = ⟨b, o, some s⟩ := by simp [Addr.add]
      rw [e] at c0
      unfold World.cell? at c0
      split at c0
      · simp at c0
      · cases c0
  subst hs
  refine ⟨b, o, rfl, hb, fun j hj => ?_⟩
  obtain ⟨ad, e, _, cj⟩ := h.cell (j := j) (by rw [← h.1]; exact hj)
  injection e with e
  subst e
  have e : (⟨b, o, none⟩ : Addr).add j = ⟨b, o + j, none⟩ := by
    unfold Addr.add
    by_cases h : j = 0
    · subst h; simp
    · simp [h]
  rw [e] at cj
  rw [cj]
  rfl
/-- the error, and the notes, of a key -/
def Mx.rerr (x : Mx) (key : Int) : Int := if x.chk ≠ 0 then x.chk else if key < x.a ∨ x.b < key then 7 else 0
def Mx.rows (x : Mx) (key : Int) : List Int := if x.rerr key = 0 then x.row key else []
/-- what Row tells -/
def RowR (x : Mx) (key : Int) (e : Ending) (w' : World) : Prop := ∃ A c, e = .returned (.tuple #[.slice A (x.rows key).length c, .int .i64 (x.rerr key)]) ∧ II w' A (x.rows key).length (x.rows key)
theorem RowR.bad {x : Mx} {key r : Int} {w' : World} (h : x.rerr key = r) (h0 : r ≠ 0) : RowR x key (.returned (.tuple #[.slice none 0 0, .int .i64 r])) w' := by
  have e : x.rows key = [] := by unfold Mx.rows; rw [if_neg (by rw [h]; exact h0)]
  refine ⟨none, 0, by rw [e, h]; rfl, by rw [e]; exact II.nil _ _⟩
theorem Mx.rerr_a {x : Mx} {key : Int} (h : x.chk ≠ 0) : x.rerr key = x.chk := by unfold Mx.rerr; rw [if_pos h]
theorem Mx.rerr_b {x : Mx} {key : Int} (h : x.chk = 0) (h2 : key < x.a ∨ x.b < key) : x.rerr key = 7 := by unfold Mx.rerr; rw [if_neg (by rw [h]; decide), if_pos h2]
theorem Mx.rerr_c {x : Mx} {key : Int} (h : x.chk = 0) (h2 : ¬ (key < x.a ∨ x.b < key)) : x.rerr key = 0 := by unfold Mx.rerr; rw [if_neg (by rw [h]; decide), if_neg h2]
theorem Mx.Fine.row_bd {x : Mx} (h : x.Fine) (hs : x.snd = false) {key : Int} (h1 : x.a ≤ key) (h2 : key ≤ x.b) {j : Nat} (hj : j < (x.rk (x.at key x.n)).length) : 0 ≤ gt (x.rk (x.at key x.n)) j + key ∧ gt (x.rk (x.at key x.n)) j + key ≤ 139 := by
  have hk : (key - x.a).toNat < x.keys := by unfold Mx.keys; omega
  have e : x.key (key - x.a).toNat = key := by unfold Mx.key; omega
  have := h.note hs hk (v := key + gt (x.rk (x.at key x.n)) j) (by
    rw [e]
    exact List.mem_of_getElem? (x.row_at key hj))
  omega
/-- what a search tells of the break that counts -/
theorem BsR.at_true {a b key : Int} {L : List Bk} {n z : Nat} (ho : (mxO a b L).Ord) (hL : L.length = n) (h1 : a ≤ key) (h2 : key ≤ b) (hf : ∃ q, L[z]? = some q ∧ q.fr = key) : (mxO a b L).at key (mxO a b L).n = z ∧ z < n := by
  obtain ⟨q, hq, hqf⟩ := hf
  have hz : z < n := by
    rcases Nat.lt_or_ge z n with h | h
    · exact h
    · rw [List.getElem?_eq_none (by omega)] at hq; cases hq
  have hzn : z < (mxO a b L).n := by rw [mxO_n, hL]; exact hz
  have e := (mxO_at (a := a) (b := b) hq).1
  refine ⟨ho.at_of hzn (by rw [e, hqf]; exact Int.le_refl _) ?_, hz⟩
  have := ho.last_ge hzn
  rw [e, hqf] at this; exact this
theorem BsR.at_false {a b key : Int} {L : List Bk} {n z : Nat} (ho : (mxO a b L).Ord) (hL : L.length = n) (h1 : a ≤ key) (h2 : key ≤ b) (hz : z ≤ n) (hlo : ∀ (j : Nat) (q : Bk), j < z → L[j]? = some q → q.fr < key) (hhi : ∀ (j : Nat) (q : Bk), z ≤ j → L[j]? = some q → key ≤ q.fr) (hf : ¬ ∃ q, L[z]? = some q ∧ q.fr = key) : ∃ i, z = i + 1 ∧ (mxO a b L).at key (mxO a b L).n = i ∧ i < n := by
  have hp := ho.pos
  rw [mxO_n, hL] at hp
  have get : ∀ j, j < n → ∃ q, L[j]? = some q ∧ (mxO a b L).fr j = q.fr := fun j hj => ⟨_, List.getElem?_eq_getElem (by omega), (mxO_at (List.getElem?_eq_getElem (by omega))).1⟩
  rcases z with _ | i
  · exfalso
    obtain ⟨q, hq, e⟩ := get 0 hp
    have h3 := hhi 0 q (Nat.le_refl _) hq
    have h4 := ho.first
    rw [e] at h4
    have h5 : q.fr = a := h4
    exact hf ⟨q, hq, by omega⟩
  · refine ⟨i, rfl, ho.at_of (by rw [mxO_n, hL]; omega) ?_ ?_, by omega⟩
    · obtain ⟨q, hq, e⟩ := get i (by omega)
      have := hlo i q (Nat.lt_succ_self _) hq
      rw [e]; omega
    · unfold Mx.last
      rw [mxO_n, hL]
      split
      · rename_i hi
        obtain ⟨q, hq, e⟩ := get (i + 1) hi
        have h3 := hhi (i + 1) q (Nat.le_refl _) hq
        have h4 : q.fr ≠ key := fun h => hf ⟨q, hq, h⟩
        rw [e]; omega
      · exact h2
theorem MX.mono {w : World} {A : Option Addr} {n : Nat} {L : List Bk} {a b : Int} (hM : MX w A n L) (ho : (mxO a b L).Ord) : ∀ (i j : Nat) (p q : Bk), i ≤ j → L[i]? = some p → L[j]? = some q → p.fr ≤ q.fr := fun i j p q hij hp hq => by
  have hj : j < (mxO a b L).n := (List.getElem?_eq_some_iff.1 hq).1
  have := ho.mono hij hj
  rw [(mxO_at hp).1, (mxO_at hq).1] at this; exact this
set_option maxHeartbeats 6400000 in
set_option maxRecDepth 100000 in
theorem Row_any (a b : Int) (A : Option Addr) (n c : Nat) (L : List Bk) (key : Int) (w : World) (hM : MXA w A n c L) (ha : i64 a) (hb : i64 b) :
    Calls Tryz.prog 16 #[.agg #[.int .i64 a, .int .i64 b, .slice A n c], .int .i64 key] w fun e w' => RowR (mxO a b L) key e w' ∧ Below w.heap.size w w' := by
  have hrun : ∀ (args : Array Value) (w : World), (callFunc 44 args).run Tryz.prog w = .ok (.enter 44 args) w := fun a w => by go_simp
  have HU : Sl (Below w.heap.size w (w.alloc (.cells #[.int .i64 a, .int .i64 b, .slice A n c] 34))) := ⟨(Below.refl _ _).alloc (Nat.le_refl _) _⟩
  have HBK : Sl _ := ⟨Blk.new w 34 #[.int .i64 a, .int .i64 b, .slice A n c]⟩
  have HM : Sl _ := ⟨hM.below HU.out⟩
  have HL : Sl (L.length = n) := ⟨hM.mx.len⟩
  have HCK : Sl _ := ⟨Check_any a b A n c L _ HM.out ha hb⟩
  clear hM ha hb
  obtain ⟨r, hr⟩ : ∃ r, (mxO a b L).chk = r := ⟨_, rfl⟩
  rw [hr] at HCK
  have HR : Sl _ := ⟨hr⟩
  clear hr
  obtain ⟨x, hx⟩ : ∃ x, mxO a b L = x := ⟨_, rfl⟩
  rw [hx]
  have HX : Sl _ := ⟨hx⟩
  clear hx
  go_enter Tryz.func16, Tryz.ntmps16
  go_wp2_with fail
  generalize w.alloc (.cells #[.int .i64 a, .int .i64 b, .slice A n c] 34) = w0 at *
  refine HCK.out.mono ?_; rintro e w1 ⟨rfl, hb⟩
  replace HU : Sl (Below w.heap.size w w1) := ⟨HU.out.trans (hb.mono HU.out.size)⟩
  replace HBK : Sl (Blk w1 w.heap.size _ _) := ⟨HBK.out.below hb HBK.out.lt⟩
  replace HM : Sl (MXA w1 A n c L) := ⟨HM.out.below hb⟩
  clear hb HCK
  by_cases h0 : r = 0
  · have h0b : (r != 0) = false := by rw [h0]; rfl
    have HCH : Sl ((mxO a b L).chk = 0) := ⟨by rw [HR.out, h0]⟩
    have HF : Sl (mxO a b L).Fine := ⟨Mx.fine (Mx.chk_ok HCH.out).1⟩
    have HS : Sl ((mxO a b L).snd = false) := ⟨(Mx.chk_ok HCH.out).2⟩
    have c0 := HBK.out.cell 0
    have c1 := HBK.out.cell 1
    have c2 := HBK.out.cell 2
    simp at c0 c1 c2
    clear HR
    by_cases hka : key < a
    · have hkd : decide (key < a) = true := decide_eq_true hka
      have HE : Sl (x.rerr key = 7) := ⟨by rw [← HX.out]; exact Mx.rerr_b HCH.out (.inl hka)⟩
      go_wp2_with fail
      go_ret2
      exact ⟨RowR.bad HE.out (by decide), HU.out⟩
    · have hkd : decide (key < a) = false := decide_eq_false hka
      by_cases hkb : b < key
      · have hkd2 : decide (b < key) = true := decide_eq_true hkb
        have HE : Sl (x.rerr key = 7) := ⟨by rw [← HX.out]; exact Mx.rerr_b HCH.out (.inr hkb)⟩
        go_wp2_with fail
        go_ret2
        exact ⟨RowR.bad HE.out (by decide), HU.out⟩
      · have hkd2 : decide (b < key) = false := decide_eq_false hkb
        have HE : Sl (x.rerr key = 0) := ⟨by rw [← HX.out]; exact Mx.rerr_c HCH.out (fun h => by rcases h with h | h; exact hka h; exact hkb h)⟩
        have HN : Sl (n ≤ 12) := ⟨by have := HF.out.n1; rw [mxO_n, HL.out] at this; exact this⟩
        have HBS : Sl _ := ⟨bsf_any A n c L key w1 HM.out.mx HN.out (HM.out.mx.mono HF.out.ord)⟩
        go_wp2_with fail
        refine HBS.out.mono ?_; rintro e w2 ⟨hbs, hb⟩
        obtain ⟨z, f, rfl, hz, hlo, hhi, hf⟩ := hbs
        have HKA : Sl (a ≤ key ∧ key ≤ b) := ⟨by omega, by omega⟩
        have HLO : Sl _ := ⟨And.intro hlo (And.intro hhi hf)⟩
        replace HU : Sl (Below w.heap.size w w2) := ⟨HU.out.trans (hb.mono HU.out.size)⟩
        replace HBK : Sl (Blk w2 w.heap.size _ _) := ⟨HBK.out.below hb HBK.out.lt⟩
        replace HM : Sl (MXA w2 A n c L) := ⟨HM.out.below hb⟩
        clear hb HBS c0 c1 c2 hlo hhi hf hka hkb hkd hkd2
        have c2 := HBK.out.cell 2
        simp at c2
        have hn12 := HN.out
        cases f
        · obtain ⟨i, hi, hat, hin⟩ := BsR.at_false HF.out.ord HL.out HKA.out.1 HKA.out.2 hz HLO.out.1 HLO.out.2.1 (fun h => by have := HLO.out.2.2.2 h; cases this)
          have hzi : (z : Int) - 1 = (i : Int) := by omega
          have HAT : Sl _ := ⟨hat⟩
          clear hat hi
          obtain ⟨bk, hbk⟩ : ∃ bk, L[i]? = some bk := ⟨_, List.getElem?_eq_getElem (by rw [HL.out]; exact hin)⟩
          obtain ⟨ad, rfl, hab, e1, e2⟩ := HM.out.mx.cells2 hbk
          have HII : Sl (II w2 bk.A bk.n bk.l) := ⟨HM.out.mx.rk bk (List.mem_of_getElem? hbk)⟩
          have hix : i < (mxO a b L).n := by rw [mxO_n, HL.out]; exact hin
          have hlen : 0 < bk.n ∧ bk.n ≤ 8 := by
            have h1 := HF.out.k1 i hix
            have h2 := HF.out.k0 i hix
            rw [(mxO_at hbk).2, HII.out.1] at h1 h2
            exact ⟨h2, h1⟩
          have HRW : Sl ((mxO a b L).rk ((mxO a b L).at key (mxO a b L).n) = bk.l) := ⟨by rw [HAT.out, (mxO_at hbk).2]⟩
          clear hbk hix HLO
          obtain ⟨fr, BA, bn, bc, bl⟩ := bk
          simp only [] at e1 e2 HII hlen HRW
          have HBD : Sl (∀ j, j < bn → -24 ≤ gt bl j + key ∧ gt bl j + key ≤ 139) := ⟨fun j hj => by
            have := HF.out.row_bd HS.out HKA.out.1 HKA.out.2 (j := j) (by rw [HRW.out, HII.out.1]; exact hj)
            rw [HRW.out] at this
            omega⟩
          obtain ⟨gb, go, rfl, hgb, hcs⟩ := HII.out.flat hlen.1
          have HCL : Sl _ := ⟨Tryz.slices_Clone_int gb go bn bc bl w2 (by rw [HII.out.1]; exact Nat.le_refl _) (by omega) hcs⟩
          have hinI : (i : Int) < (n : Int) := by omega
          clear hcs hgb
          go_wp2_with fail
          refine HCL.out.mono ?_; rintro e w3 ⟨v, rfl, hown, _, hb⟩
          have ebl : (bl.take bn).map (Value.int .i64) = frL bn (gt bl) := by
            rw [List.take_of_length_le (by rw [HII.out.1]; exact Nat.le_refl _)]
            exact frL_of HII.out.1
          rw [ebl] at hown
          obtain ⟨g, cap, rfl, hgb, hgl⟩ := hown.form hlen.1
          have HOWN : Sl (w3.ownsRow w2.heap.size 3 1 (.slice (some ⟨g, 0, none⟩) bn cap) bn (frL bn (gt bl))) := ⟨hown⟩
          have HU3 : Sl (Below w.heap.size w w3) := ⟨HU.out.trans (hb.mono HU.out.size)⟩
          have HG : Sl (w.heap.size ≤ g) := ⟨by have := HU.out.size; omega⟩
          clear hown hb HCL ebl e1 e2 hab c2 hgb hgl
          go_wp2_with fail
          go_loopw [10, 46] (fun s10 s46 wr => ∃ (k : Nat) (v10 : Value), k ≤ bn ∧ s46 = .int .i64 k ∧ s10 = v10 ∧ Sl (wr.ownsRow w2.heap.size 3 1 (.slice (some ⟨g, 0, none⟩) bn cap) bn (frL bn (fun j => if j < k then gt bl j + key else gt bl j)) ∧ Below w.heap.size w wr)) (fun _ s46 _ => bn - (RowKit.intOf s46).toNat)
          case atStart => exact ⟨0, _, Nat.zero_le _, rfl, rfl, ⟨by
            rw [frL_congr (g := gt bl) (fun j _ => if_neg (Nat.not_lt_zero _))]; exact HOWN.out, HU3.out⟩⟩
          case round =>
            clear HOWN
            obtain ⟨k, v10, hk, rfl, rfl, HK⟩ := hrel
            by_cases hkn : k < bn
            · have cc := HK.out.1.cellAt k (by omega)
              have cf := HK.out.1.frozenAt k
              rw [frL_at hkn, if_neg (Nat.lt_irrefl _)] at cc
              unfold iv at cc
              have hkI : (k : Int) < (bn : Int) := by omega
              have hbn8 := hlen.2
              have hbd := HBD.out k hkn
              obtain ⟨u, hu⟩ : ∃ u, gt bl k = u := ⟨_, rfl⟩
              rw [hu] at cc hbd
              have HUU : Sl _ := ⟨hu⟩
              clear hu
              have hw : IntKind.i64.wrap (u + key) = u + key := by rw [IntKind.wrap_i64]; omega
              go_wp2_with fail
              refine ⟨⟨k + 1, _, hkn, by go_num, rfl, ⟨?_, ?_⟩⟩, by simp [RowKit.intOf]; omega⟩
              · have h1 := (HK.out.1.stored k (iv (u + key))).1
                rw [frL_set, frL_congr (g := fun j => if j < k + 1 then gt bl j + key else gt bl j) (fun j _ => by
                  by_cases h : j = k
                  · subst h; rw [if_pos rfl, if_pos (Nat.lt_succ_self _), HUU.out]
                  · rw [if_neg h]
                    by_cases h2 : j < k
                    · rw [if_pos h2, if_pos (by omega)]
                    · rw [if_neg h2, if_neg (by omega)])] at h1
                exact h1
              · exact HK.out.2.setCell HG.out _
            · obtain rfl : k = bn := by omega
              go_wp2_with fail
              go_ret2
              have hrow : x.rows key = (x.rk (x.at key x.n)).map fun s => key + s := by
                unfold Mx.rows; rw [if_pos HE.out]; rfl
              have hlr : (x.rows key).length = k := by rw [hrow, List.length_map, ← HX.out, HRW.out, HII.out.1]
              refine ⟨⟨some ⟨g, 0, none⟩, cap, by rw [hlr, HE.out]; rfl, rfl, ?_⟩, HK.out.2⟩
              have e : (x.rows key).map iv = frL k (fun j => if j < k then gt bl j + key else gt bl j) := by
                rw [frL_of hlr]
                refine frL_congr fun j hj => ?_
                rw [if_pos hj, hrow, ← HX.out, HRW.out]
                unfold gt
                rw [List.getElem?_map, List.getElem?_eq_getElem (by rw [HII.out.1]; exact hj)]
                show key + _ = _ + key
                exact Int.add_comm _ _
              rw [e, hlr]
              exact Reads.of_own HK.out.1
        · obtain ⟨hat, hin⟩ := BsR.at_true HF.out.ord HL.out HKA.out.1 HKA.out.2 (HLO.out.2.2.1 rfl)
          have HAT : Sl _ := ⟨hat⟩
          clear hat
          obtain ⟨i, hi⟩ : ∃ i, z = i := ⟨_, rfl⟩
          rw [hi] at hin HAT hz
          subst hi
          generalize z = i at *
          obtain ⟨bk, hbk⟩ : ∃ bk, L[i]? = some bk := ⟨_, List.getElem?_eq_getElem (by rw [HL.out]; exact hin)⟩
          obtain ⟨ad, rfl, hab, e1, e2⟩ := HM.out.mx.cells2 hbk
          have HII : Sl (II w2 bk.A bk.n bk.l) := ⟨HM.out.mx.rk bk (List.mem_of_getElem? hbk)⟩
          have hix : i < (mxO a b L).n := by rw [mxO_n, HL.out]; exact hin
          have hlen : 0 < bk.n ∧ bk.n ≤ 8 := by
            have h1 := HF.out.k1 i hix
            have h2 := HF.out.k0 i hix
            rw [(mxO_at hbk).2, HII.out.1] at h1 h2
            exact ⟨h2, h1⟩
          have HRW : Sl ((mxO a b L).rk ((mxO a b L).at key (mxO a b L).n) = bk.l) := ⟨by rw [HAT.out, (mxO_at hbk).2]⟩
          clear hbk hix HLO
          obtain ⟨fr, BA, bn, bc, bl⟩ := bk
          simp only [] at e1 e2 HII hlen HRW
          have HBD : Sl (∀ j, j < bn → -24 ≤ gt bl j + key ∧ gt bl j + key ≤ 139) := ⟨fun j hj => by
            have := HF.out.row_bd HS.out HKA.out.1 HKA.out.2 (j := j) (by rw [HRW.out, HII.out.1]; exact hj)
            rw [HRW.out] at this
            omega⟩
          obtain ⟨gb, go, rfl, hgb, hcs⟩ := HII.out.flat hlen.1
          have HCL : Sl _ := ⟨Tryz.slices_Clone_int gb go bn bc bl w2 (by rw [HII.out.1]; exact Nat.le_refl _) (by omega) hcs⟩
          have hinI : (i : Int) < (n : Int) := by omega
          clear hcs hgb
          go_wp2_with fail
          refine HCL.out.mono ?_; rintro e w3 ⟨v, rfl, hown, _, hb⟩
          have ebl : (bl.take bn).map (Value.int .i64) = frL bn (gt bl) := by
            rw [List.take_of_length_le (by rw [HII.out.1]; exact Nat.le_refl _)]
            exact frL_of HII.out.1
          rw [ebl] at hown
          obtain ⟨g, cap, rfl, hgb, hgl⟩ := hown.form hlen.1
          have HOWN : Sl (w3.ownsRow w2.heap.size 3 1 (.slice (some ⟨g, 0, none⟩) bn cap) bn (frL bn (gt bl))) := ⟨hown⟩
          have HU3 : Sl (Below w.heap.size w w3) := ⟨HU.out.trans (hb.mono HU.out.size)⟩
          have HG : Sl (w.heap.size ≤ g) := ⟨by have := HU.out.size; omega⟩
          clear hown hb HCL ebl e1 e2 hab c2 hgb hgl
          go_wp2_with fail
          go_loopw [10, 46] (fun s10 s46 wr => ∃ (k : Nat) (v10 : Value), k ≤ bn ∧ s46 = .int .i64 k ∧ s10 = v10 ∧ Sl (wr.ownsRow w2.heap.size 3 1 (.slice (some ⟨g, 0, none⟩) bn cap) bn (frL bn (fun j => if j < k then gt bl j + key else gt bl j)) ∧ Below w.heap.size w wr)) (fun _ s46 _ => bn - (RowKit.intOf s46).toNat)
          case atStart => exact ⟨0, _, Nat.zero_le _, rfl, rfl, ⟨by
            rw [frL_congr (g := gt bl) (fun j _ => if_neg (Nat.not_lt_zero _))]; exact HOWN.out, HU3.out⟩⟩
          case round =>
            clear HOWN
            obtain ⟨k, v10, hk, rfl, rfl, HK⟩ := hrel
            by_cases hkn : k < bn
            · have cc := HK.out.1.cellAt k (by omega)
              have cf := HK.out.1.frozenAt k
              rw [frL_at hkn, if_neg (Nat.lt_irrefl _)] at cc
              unfold iv at cc
              have hkI : (k : Int) < (bn : Int) := by omega
              have hbn8 := hlen.2
              have hbd := HBD.out k hkn
              obtain ⟨u, hu⟩ : ∃ u, gt bl k = u := ⟨_, rfl⟩
              rw [hu] at cc hbd
              have HUU : Sl _ := ⟨hu⟩
              clear hu
              have hw : IntKind.i64.wrap (u + key) = u + key := by rw [IntKind.wrap_i64]; omega
              go_wp2_with fail
              refine ⟨⟨k + 1, _, hkn, by go_num, rfl, ⟨?_, ?_⟩⟩, by simp [RowKit.intOf]; omega⟩
              · have h1 := (HK.out.1.stored k (iv (u + key))).1
                rw [frL_set, frL_congr (g := fun j => if j < k + 1 then gt bl j + key else gt bl j) (fun j _ => by
                  by_cases h : j = k
                  · subst h; rw [if_pos rfl, if_pos (Nat.lt_succ_self _), HUU.out]
                  · rw [if_neg h]
                    by_cases h2 : j < k
                    · rw [if_pos h2, if_pos (by omega)]
                    · rw [if_neg h2, if_neg (by omega)])] at h1
                exact h1
              · exact HK.out.2.setCell HG.out _
            · obtain rfl : k = bn := by omega
              go_wp2_with fail
              go_ret2
              have hrow : x.rows key = (x.rk (x.at key x.n)).map fun s => key + s := by
                unfold Mx.rows; rw [if_pos HE.out]; rfl
              have hlr : (x.rows key).length = k := by rw [hrow, List.length_map, ← HX.out, HRW.out, HII.out.1]
              refine ⟨⟨some ⟨g, 0, none⟩, cap, by rw [hlr, HE.out]; rfl, rfl, ?_⟩, HK.out.2⟩
              have e : (x.rows key).map iv = frL k (fun j => if j < k then gt bl j + key else gt bl j) := by
                rw [frL_of hlr]
                refine frL_congr fun j hj => ?_
                rw [if_pos hj, hrow, ← HX.out, HRW.out]
                unfold gt
                rw [List.getElem?_map, List.getElem?_eq_getElem (by rw [HII.out.1]; exact hj)]
                show key + _ = _ + key
                exact Int.add_comm _ _
              rw [e, hlr]
              exact Reads.of_own HK.out.1
  · have h0b : (r != 0) = true := by simpa using h0
    have HE : Sl (x.rerr key = r) := ⟨by rw [← HX.out, Mx.rerr_a (by rw [HR.out]; exact h0), HR.out]⟩
    have H0 : Sl _ := ⟨h0⟩
    go_wp2_with fail
    go_ret2
    exact ⟨RowR.bad HE.out H0.out, HU.out⟩
end Go.Proofs.YtafadpaljanghaaGreatDoor
