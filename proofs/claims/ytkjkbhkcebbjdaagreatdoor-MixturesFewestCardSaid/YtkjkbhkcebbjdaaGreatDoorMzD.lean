/- Package mixtures: Doubles. -/
import Derived.Test.YtkjkbhkcebbjdaaGreatDoorMzC
import Derived.Test.YtkjkbhkcebbjdaaGreatDoorMyU
import Derived.Test.YtkjkbhkcebbjdaaGreatDoorHld
namespace Go.Proofs.YtkjkbhkcebbjdaaGreatDoor
set_option linter.unusedSimpArgs false
open Go.RowKit
set_option linter.unusedVariables false

theorem compact_len {l : List Int} : (Lib.compact l).length < l.length ↔ twin l = true := by
  have e : (Lib.compact l).length = (List.range l.length).countP (Lib.keeps l.toArray) := by
    unfold Lib.compact Lib.compactUpTo
    rw [List.length_map, ← List.countP_eq_length_filter]
  have g : ∀ j, j < l.length → l.toArray[j]! = gt l j := fun j hj => by
    unfold gt
    simp [List.getElem?_eq_getElem hj, hj]
  have hle : (List.range l.length).countP (Lib.keeps l.toArray) ≤ l.length := by
    have := List.countP_le_length (p := Lib.keeps l.toArray) (l := List.range l.length)
    rwa [List.length_range] at this
  have hall : (List.range l.length).countP (Lib.keeps l.toArray) = l.length ↔ ∀ j ∈ List.range l.length, Lib.keeps l.toArray j = true := by
    have := List.countP_eq_length (p := Lib.keeps l.toArray) (l := List.range l.length)
    rwa [List.length_range] at this
  rw [e]
  unfold twin
  rw [anyN_iff]
  constructor
  · intro h
    have hn : ¬ ∀ j ∈ List.range l.length, Lib.keeps l.toArray j = true := fun h2 => by have := hall.2 h2; omega
    refine Classical.byContradiction fun hc => hn fun j hj => ?_
    rw [List.mem_range] at hj
    unfold Lib.keeps
    rw [decide_eq_true_iff]
    rcases Nat.eq_zero_or_pos j with h0 | h0
    · exact .inl h0
    · right
      rw [g j hj, g (j - 1) (by omega)]
      intro h3
      exact hc ⟨j - 1, by omega, by rw [show j - 1 + 1 = j by omega]; exact decide_eq_true h3⟩
  · rintro ⟨j, hj, h⟩
    have h1 := of_decide_eq_true h
    rcases Nat.lt_or_ge ((List.range l.length).countP (Lib.keeps l.toArray)) l.length with h2 | h2
    · exact h2
    · have h3 := hall.1 (by omega) (j + 1) (List.mem_range.2 (by omega))
      unfold Lib.keeps at h3
      rw [decide_eq_true_iff] at h3
      rcases h3 with h3 | h3
      · omega
      · rw [g _ (by omega), show j + 1 - 1 = j by omega, g _ (by omega)] at h3
        exact absurd h1 h3
theorem size_slice25 : (Tryz.prog.info? 25).map (·.size) = some 1 := by kernel_rfl
/-- what Doubles keeps between its keys -/
def DblI (x : Mx) (w0 : World) (gx gc B : Nat) (a b : Int) (A : Option Addr) (n c : Nat) (k : Nat) (W : World) : Prop :=
  Blk W gx 24 #[.int .i64 a, .int .i64 b, .slice A n c] ∧ (∃ v, Blk W gc 25 #[v] ∧ W.ownsRow B 3 1 v (x.dbl k).length ((x.dbl k).map iv)) ∧ Below w0.heap.size w0 W ∧ B ≤ W.heap.size
theorem Mx.dbl_len (x : Mx) : ∀ k, (x.dbl k).length ≤ k
  | 0 => Nat.le_refl _
  | k+1 => by
    unfold Mx.dbl
    split
    · rw [List.length_append]; have := Mx.dbl_len x k; simp; omega
    · have := Mx.dbl_len x k; omega
theorem DblI.inv {x : Mx} {w0 : World} {gx gc B : Nat} {a b : Int} {A : Option Addr} {n c : Nat} {L : List Bk} (hM : MXA w0 A n c L) : EachInv gx a b A n c L (DblI x w0 gx gc B a b A n c) := by
  refine ⟨fun k W h => ⟨h.1, hM.below h.2.2.1⟩, fun k W W' h hb => ?_⟩
  obtain ⟨h1, ⟨v, h3, h4⟩, h5, h6⟩ := h
  exact ⟨h1.below hb h1.lt, ⟨v, h3.below hb h3.lt, own_mv h4 (Mv.of_below hb) (fun q hq => by have := (h4.lt q hq).2; omega)⟩, h5.trans (hb.mono h5.size), Nat.le_trans h6 hb.size⟩
set_option maxHeartbeats 6400000 in
set_option maxRecDepth 100000 in
theorem dbl1_any (x : Mx) (w0 : World) (gx gc B : Nat) (a b : Int) (A : Option Addr) (n c : Nat) (L : List Bk) (hx : mxO a b L = x) (hF : x.Fine) (hgc : gc < B) (hgx : gx < B) (hw0 : w0.heap.size ≤ gc) (hw1 : w0.heap.size ≤ gx) (hne : gx ≠ gc) (k : Nat) (q : Bk) (W : World) (hk : k < x.keys) (hq : L[x.at (x.key k) x.n]? = some q) (hI : DblI x w0 gx gc B a b A n c k W) (hM : MXA w0 A n c L) :
    Calls Tryz.prog 41 #[.int .i64 (x.key k), .slice q.A q.n q.c, .pointer (some ⟨gc, 0, none⟩)] W fun e w' => e = .returned (.tuple #[]) ∧ DblI x w0 gx gc B a b A n c (k + 1) w' ∧ ∀ g5 cs, Blk W g5 49 cs → Blk w' g5 49 cs := by
  obtain ⟨i0, hi0, hz0, hz1, hz2⟩ := infoNt
  have HI : Sl _ := ⟨And.intro hi0 (And.intro hz0 (And.intro hz1 hz2))⟩
  clear hi0 hz0 hz1 hz2
  obtain ⟨h1, ⟨v, h3, h4⟩, h5, h6⟩ := hI
  have h2 : MXA W A n c L := hM.below h5
  have hkin := hF.key_in hk
  have hat := (hF.ord.at_in hkin.1 hkin.2).1
  have hrk : x.rk (x.at (x.key k) x.n) = q.l := by rw [← hx]; rw [← hx] at hq; exact (mxO_at hq).2
  have hII : II W q.A q.n q.l := h2.mx.rk q (List.mem_of_getElem? hq)
  have hlen : 0 < q.n ∧ q.n ≤ 8 := by
    have a1 := hF.k1 _ hat
    have a2 := hF.k0 _ hat
    rw [hrk, hII.1] at a1 a2
    exact ⟨a2, a1⟩
  have HD : Sl (x.dbl (k + 1) = if twin q.l then x.dbl k ++ [x.key k] else x.dbl k) := ⟨by rw [Mx.dbl, hrk]⟩
  have HDL : Sl ((x.dbl k).length ≤ 61) := ⟨by have := x.dbl_len k; have := hF.keys_pos; omega⟩
  obtain ⟨key, hkey⟩ : ∃ key, x.key k = key := ⟨_, rfl⟩
  rw [hkey] at HD ⊢
  have HX1 : Sl _ := ⟨h1⟩
  have HV : Sl _ := ⟨h3⟩
  have HO : Sl _ := ⟨h4⟩
  have HU : Sl _ := ⟨h5⟩
  have HBS : Sl _ := ⟨h6⟩
  have ORD : Sl (gc < B ∧ gx < B ∧ w0.heap.size ≤ gc ∧ w0.heap.size ≤ gx ∧ gx ≠ gc) := ⟨⟨hgc, hgx, hw0, hw1, hne⟩⟩
  clear h1 h2 h3 h4 h5 h6 hq hrk hat hkin hkey hgc hgx hw0 hw1 hne hx hF hk hM
  obtain ⟨fr, QA, qn, qc, ql⟩ := q
  simp only [] at hII hlen HD ⊢
  obtain ⟨gb, o, rfl, hgb, hcs⟩ := hII.flat hlen.1
  have HQL : Sl (ql.length = qn) := ⟨hII.1⟩
  have HCL : Sl _ := ⟨Tryz.slices_Clone_int gb o qn qc ql W (by rw [hII.1]; exact Nat.le_refl _) (by omega) hcs⟩
  clear hII hcs hgb
  go_enter Tryz.func41, Tryz.ntmps41
  go_wp2_with fail
  refine HCL.out.mono ?_; rintro e w1 ⟨v1, rfl, hown, _, hb⟩
  rw [List.take_of_length_le (by rw [HQL.out]; exact Nat.le_refl _)] at hown
  obtain ⟨g1, c1, rfl, hg1, hg1l⟩ := hown.form hlen.1
  have hcap : qn ≤ c1 := by
    rcases hown.2 with ⟨h1, _⟩ | ⟨g', c', cur, e1, _, _, h2, _⟩
    · cases h1
    · injection e1 with e1 e2 e3; omega
  have hco := Tryz.slices_Compact_int_cells g1 0 qn c1 ql w1 (by rw [HQL.out]; exact Nat.le_refl _) (by omega) hcap (fun j hj => by
    rw [Nat.zero_add, hown.cellAt j (by rw [HQL.out] at hj; omega), List.getElem?_map, List.getElem?_eq_getElem hj]
    simp [List.getD, List.getElem?_eq_getElem hj]) (fun j hj => by rw [Nat.zero_add]; exact hown.frozenAt j)
  rw [List.take_of_length_le (by rw [HQL.out]; exact Nat.le_refl _)] at hco
  have HCO : Sl _ := ⟨hco⟩
  clear hco
  have HM1 : Sl (Mv W.heap.size W w1 ∧ W.heap.size ≤ g1) := ⟨Mv.of_below hb, hg1⟩
  clear hown hb HCL hcap hg1l hg1
  go_wp2_with fail
  refine HCO.out.mono ?_; rintro e w2 ⟨rfl, m, rfl⟩
  have HM2 : Sl (Mv g1 w1 ((w1.drewN m).setCells g1 0 ((Lib.compact ql ++ List.replicate (qn - (Lib.compact ql).length) 0).map (Value.int .i64)))) := ⟨Mv.trans (Mv.drewN (Mv.refl g1 w1) m) (Mv.setCells _ _ _ _)⟩
  generalize (w1.drewN m).setCells g1 0 ((Lib.compact ql ++ List.replicate (qn - (Lib.compact ql).length) 0).map (Value.int .i64)) = w3 at *
  have HBW : Sl (∀ p, p < W.heap.size → w3.heap[p]? = W.heap[p]?) := ⟨fun p hp => (HM2.out.block p (Nat.lt_of_lt_of_le hp HM1.out.1.size) (by have := HM1.out.2; omega)).trans (HM1.out.1.block p hp (by omega))⟩
  have HB3 : Sl (Below W.heap.size W w3) := ⟨⟨HM2.out.os.trans HM1.out.1.os, HM2.out.tape.trans HM1.out.1.tape, HM2.out.output.trans HM1.out.1.output, Nat.le_trans HM1.out.1.size HM2.out.size, fun p hp => HBW.out p hp⟩⟩
  replace HX1 : Sl (Blk w3 gx _ _) := ⟨HX1.out.below HB3.out HX1.out.lt⟩
  have HV0 := HV
  replace HV : Sl (Blk w3 gc 25 #[v]) := ⟨HV.out.below HB3.out HV.out.lt⟩
  replace HO : Sl (w3.ownsRow B 3 1 v (x.dbl k).length ((x.dbl k).map iv)) := ⟨own_mv HO.out (Mv.of_below HB3.out) (fun q hq => by have := (HO.out.lt q hq).2; omega)⟩
  replace HU : Sl (Below w0.heap.size w0 w3) := ⟨HU.out.trans (HB3.out.mono HU.out.size)⟩
  replace HBS : Sl (B ≤ w3.heap.size) := ⟨Nat.le_trans HBS.out HB3.out.size⟩
  have HKP : Sl (∀ g5 cs, Blk W g5 49 cs → Blk w3 g5 49 cs) := ⟨fun g5 cs h => h.below HB3.out h.lt⟩
  clear HM1 HM2 HBW HB3 HV0 HCO
  have htw := @compact_len ql
  rw [HQL.out] at htw
  obtain ⟨m2, hm2⟩ : ∃ m2, (Lib.compact ql).length = m2 := ⟨_, rfl⟩
  rw [hm2] at htw ⊢
  obtain ⟨t, ht⟩ : ∃ t, twin ql = t := ⟨_, rfl⟩
  rw [ht] at htw HD
  have HTW : Sl _ := ⟨htw⟩
  clear htw hm2 ht
  cases t
  · have hnl : ¬ (m2 : Int) < (qn : Int) := fun h => by have := HTW.out.1 (by omega); cases this
    have hnd : decide ((m2 : Int) < (qn : Int)) = false := decide_eq_false hnl
    have HDD : Sl (x.dbl (k + 1) = x.dbl k) := ⟨by rw [HD.out]; rfl⟩
    go_wp2_with fail
    go_end0
    exact ⟨rfl, ⟨HX1.out, ⟨v, HV.out, by rw [HDD.out]; exact HO.out⟩, HU.out, HBS.out⟩, HKP.out⟩
  · have hl : (m2 : Int) < (qn : Int) := by have := HTW.out.2 rfl; omega
    have hld : decide ((m2 : Int) < (qn : Int)) = true := decide_eq_true hl
    have HDD : Sl (x.dbl (k + 1) = x.dbl k ++ [key]) := ⟨by rw [HD.out]; rfl⟩
    have cv := HV.out.cell 0
    simp at cv
    obtain ⟨nd, hnd⟩ : ∃ nd, (x.dbl k).length = nd := ⟨_, rfl⟩
    rw [hnd] at HO HDL
    have hnd61 := HDL.out
    have HND : Sl _ := ⟨hnd⟩
    clear hnd
    go_wp2_with ((with_reducible show wpList _ _ _ _ _ _); first
      | (at_builtin; (refine wpList_append_any _ rfl (.tmp 12) (.tmp 14) _ rfl B 3 i0 _ 1 8 Tryz.underlying25 HI.out.1 HI.out.2.1 HI.out.2.2.1 HI.out.2.2.2 rfl (by decide) v nd _ rfl (xown_alloc HO.out _) _ (some ⟨w3.heap.size, 0, none⟩) 1 1 [.int .i64 key] rfl (xreads1 _ _ _) (by intro u hu; simp at hu; subst hu; rfl) (by unfold maxLen; omega) (by omega) (by have := HBS.out; simp; omega) ?_; rintro v6 w4 hown hg hat; obtain ⟨gq, cq, rfl, _, _⟩ := hown.form (Nat.succ_pos _); have XQ : Sl (w4.ownsRow B 3 1 (.slice (some ⟨gq, 0, none⟩) (nd + 1) cq) (nd + 1) ((x.dbl (k + 1)).map iv)) := ⟨by rw [HDD.out, List.map_append]; exact hown⟩; have HMA : Sl (∀ p ob, w3.heap[p]? = some ob → v.ownBlock ≠ some p → w4.heap[p]? = some ob) := ⟨fun p ob hp hne => by have hpl : p < w3.heap.size := (Array.getElem?_eq_some_iff.1 hp).1; exact (hg.block p (by simp; omega) (fun e => hne e.symm)).trans ((Below.heap_alloc _ _ p hpl).trans hp)⟩; have HLN : Sl (Below B w3 w4) := ⟨xbelow_grown (Below.refl _ _) HBS.out HO.out hg⟩; clear hown hg hat cv; have XV : Sl (Blk w4 gc 25 #[v]) := ⟨HV.out.below HLN.out ORD.out.1⟩))
      | (refine wpList_store_cell rfl 25 (.tmp 2) (.tmp 15) rfl gc 0 (.slice (some ⟨gq, 0, none⟩) (nd + 1) cq) rfl rfl 25 #[v] #[.slice (some ⟨gq, 0, none⟩) (nd + 1) cq] XV.out (Nat.le_refl 1) rfl size_slice25 rfl rfl ?_; rintro w5 hm hsz hbk hqq; clear hqq; have XW : Sl (Blk w5 gc 25 #[.slice (some ⟨gq, 0, none⟩) (nd + 1) cq]) := ⟨hbk⟩; have XM : Sl (Mv gc w4 w5) := ⟨hm⟩; clear hm hsz hbk))
    go_end0
    have hm5 := XM.out
    have hne : ∀ q, (Value.slice (some ⟨gq, 0, none⟩) (nd + 1) cq).ownBlock = some q → q ≠ gc := fun q hq => by have := (XQ.out.lt q hq).1; have := ORD.out.1; omega
    refine ⟨rfl, ⟨(HX1.out.below HLN.out ORD.out.2.1).mv hm5 ORD.out.2.2.2.2, ⟨_, XW.out, ?_⟩, ?_, ?_⟩, fun g5 cs h => ?_⟩
    · rw [HDD.out]
      have := own_mv XQ.out hm5 hne
      rw [HDD.out] at this
      rw [List.length_append, HND.out]
      exact this
    · exact below_mv (HU.out.trans (HLN.out.mono (by have := ORD.out; omega))) hm5 ORD.out.2.2.1 (by have := HU.out.size; have := HLN.out.size; omega)
    · exact Nat.le_trans HBS.out (Nat.le_trans HLN.out.size hm5.size)
    · have h3 := HKP.out g5 cs h
      have h4 : Blk w4 g5 _ cs := HMA.out g5 _ h3 (own_blk_ne HO.out h3 (by decide))
      exact h4.mv hm5 (fun e => by subst e; exact Blk.ne_ h4 XV.out (by decide) rfl)
/-- the keys with a double note -/
def Mx.dbls (x : Mx) : List Int := if x.chk = 0 then x.dbl x.keys else []
/-- what Doubles tells -/
def DblR (x : Mx) (e : Ending) (w' : World) : Prop := ∃ A c, e = .returned (.tuple #[.slice A x.dbls.length c, .int .i64 x.chk]) ∧ II w' A x.dbls.length x.dbls
theorem DblR.bad {x : Mx} {r : Int} {w' : World} (h : x.chk = r) (h0 : r ≠ 0) : DblR x (.returned (.tuple #[.slice none 0 0, .int .i64 r])) w' := by
  have e : x.dbls = [] := by unfold Mx.dbls; rw [if_neg (by rw [h]; exact h0)]
  exact ⟨none, 0, by rw [e, h]; rfl, by rw [e]; exact II.nil _ _⟩
theorem own_slice {w : World} {base n : Nat} {e : TypeId} {v : Value} {l : List Int} (h : w.ownsRow base e 1 v n (l.map iv)) (hl : l.length = n) : ∃ A c, v = .slice A n c ∧ II w A n l := by
  have hr : ∃ A c, v = .slice A n c := by
    rcases h.2 with ⟨h1, h2⟩ | ⟨g, cap, cur, h1, _⟩
    · exact ⟨none, 0, by rw [h1, h2]⟩
    · exact ⟨_, _, h1⟩
  obtain ⟨A, c, rfl⟩ := hr
  exact ⟨A, c, rfl, hl, Reads.of_own h⟩
set_option maxHeartbeats 6400000 in
set_option maxRecDepth 100000 in
theorem Doubles_any (a b : Int) (A : Option Addr) (n c : Nat) (L : List Bk) (w : World) (hM : MXA w A n c L) (ha : i64 a) (hb : i64 b) :
    Calls Tryz.prog 21 #[.agg #[.int .i64 a, .int .i64 b, .slice A n c]] w fun e w' => DblR (mxO a b L) e w' ∧ Below w.heap.size w w' := by
  have hmf : ∀ (fn : Fn) (first cap : Array Value) (w : World), (Instr.makeFunc fn first cap).run Tryz.prog w = .ok (.func fn first cap) w := fun _ _ _ _ => rfl
  have HU : Sl (Below w.heap.size w (w.alloc (.cells #[.int .i64 a, .int .i64 b, .slice A n c] 24))) := ⟨(Below.refl _ _).alloc (Nat.le_refl _) _⟩
  have HBK : Sl _ := ⟨Blk.new w 24 #[.int .i64 a, .int .i64 b, .slice A n c]⟩
  have HM : Sl _ := ⟨hM⟩
  have HCK : Sl _ := ⟨Check_any a b A n c L _ (hM.below HU.out) ha hb⟩
  clear hM ha hb
  obtain ⟨x, hx⟩ : ∃ x, mxO a b L = x := ⟨_, rfl⟩
  rw [hx] at HCK ⊢
  have HX : Sl _ := ⟨hx⟩
  clear hx
  obtain ⟨r, hr⟩ : ∃ r, x.chk = r := ⟨_, rfl⟩
  rw [hr] at HCK
  have HR : Sl _ := ⟨hr⟩
  clear hr
  go_enter Tryz.func21, Tryz.ntmps21
  go_wp2_with fail
  generalize w.alloc (.cells #[.int .i64 a, .int .i64 b, .slice A n c] 24) = w0 at *
  refine HCK.out.mono ?_; rintro e w1 ⟨rfl, hb⟩
  replace HU : Sl (Below w.heap.size w w1) := ⟨HU.out.trans (hb.mono HU.out.size)⟩
  replace HBK : Sl (Blk w1 w.heap.size _ _) := ⟨HBK.out.below hb HBK.out.lt⟩
  clear hb HCK
  by_cases h0 : r = 0
  · have h0b : (r != 0) = false := by rw [h0]; rfl
    have HCH : Sl (x.chk = 0) := ⟨by rw [HR.out, h0]⟩
    have HF : Sl x.Fine := ⟨Mx.fine (Mx.chk_ok HCH.out).1⟩
    clear HR
    have hbn := Blk.new w1 25 #[.slice none 0 0]
    have hbw : Below w1.heap.size w1 (w1.alloc (.cells #[.slice none 0 0] 25)) := (Below.refl _ _).alloc (Nat.le_refl _) _
    have hs1 : (w1.alloc (.cells #[.slice none 0 0] 25)).heap.size = w1.heap.size + 1 := by simp
    have hI0 : DblI x w w.heap.size w1.heap.size (w1.heap.size + 1) a b A n c 0 (w1.alloc (.cells #[.slice none 0 0] 25)) := ⟨HBK.out.below hbw HBK.out.lt, ⟨_, hbn, World.ownsRow_nil _ _ _ _⟩, HU.out.trans (hbw.mono HU.out.size), by rw [hs1]; exact Nat.le_refl _⟩
    have HEA : Sl _ := ⟨eachD_any w.heap.size w1.heap.size a b A n c L (DblI x w w.heap.size w1.heap.size (w1.heap.size + 1) a b A n c) _ (by rw [HX.out]; exact HF.out) (DblI.inv HM.out) hI0 (fun k q W hk hq hI => by
      rw [HX.out] at hk hq ⊢
      exact dbl1_any x w w.heap.size w1.heap.size (w1.heap.size + 1) a b A n c L HX.out HF.out (Nat.lt_succ_self _) (by have := HBK.out.lt; omega) HU.out.size (Nat.le_refl _) (by have := HBK.out.lt; omega) k q W hk hq hI HM.out)⟩
    have hea := HEA.out
    rw [HX.out] at hea
    replace HEA : Sl _ := ⟨hea⟩
    clear hbn hbw hs1 hI0 hea
    go_wp2_with fail
    refine HEA.out.mono ?_; rintro e w2 ⟨rfl, h1, ⟨v, h3, h4⟩, h5, h6⟩
    have cv := h3.cell 0
    simp at cv
    obtain ⟨A2, c2, rfl, hii⟩ := own_slice h4 rfl
    have HII : Sl _ := ⟨And.intro hii h5⟩
    clear h1 h3 h4 h5 h6 hii HEA
    go_wp2_with fail
    go_ret2
    have e : x.dbls = x.dbl x.keys := by unfold Mx.dbls; rw [if_pos HCH.out]
    refine ⟨⟨A2, c2, by rw [e, HCH.out]; rfl, by rw [e]; exact HII.out.1⟩, HII.out.2⟩
  · have h0b : (r != 0) = true := by simpa using h0
    have H0 : Sl _ := ⟨h0⟩
    go_wp2_with fail
    go_ret2
    exact ⟨DblR.bad HR.out H0.out, HU.out⟩
end Go.Proofs.YtkjkbhkcebbjdaaGreatDoor
