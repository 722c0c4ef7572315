/- Package mixtures: Counts. -/
import Derived.Test.YtkjkbhkcebbjdaaGreatDoorMzD
import Derived.Maps.Own
import Derived.Maps.OwnOps
import Derived.Maps.Views
namespace Go.Proofs.YtkjkbhkcebbjdaaGreatDoor
set_option linter.unusedSimpArgs false
open Go.RowKit Go.Maps Go.WideShapes Go.ChangeMaps
set_option linter.unusedVariables false

/-- how often a number is among the first n -/
def cntR (h : Nat → Int) (v : Int) : Nat → Nat
  | 0 => 0
  | n+1 => cntR h v n + if h n = v then 1 else 0
theorem cntR_range (h : Nat → Int) (v : Int) : ∀ n, ((List.range n).map h).count v = cntR h v n
  | 0 => rfl
  | n+1 => by
    rw [List.range_succ, List.map_append, List.count_append, cntR_range h v n, cntR]
    congr 1
    by_cases e : h n = v
    · rw [if_pos e]; simp [e]
    · rw [if_neg e]; simp [e]
theorem list_range_gt (l : List Int) : l = (List.range l.length).map (gt l) := by
  refine List.ext_getElem? fun j => ?_
  rw [List.getElem?_map]
  rcases Nat.lt_or_ge j l.length with h | h
  · rw [List.getElem?_range h, gt_at h]; rfl
  · rw [List.getElem?_eq_none h, List.getElem?_eq_none (by simpa using h)]; rfl
theorem row_cntR {x : Mx} {key : Int} {l : List Int} {n : Nat} (h : x.rk (x.at key x.n) = l) (hl : l.length = n) (v : Int) : (x.row key).count v = cntR (fun j => key + gt l j) v n := by
  unfold Mx.row
  rw [h]
  conv => lhs; rw [list_range_gt l]
  rw [List.map_map, hl]
  exact cntR_range _ _ _
theorem cntR_le (h : Nat → Int) (v : Int) : ∀ n, cntR h v n ≤ n
  | 0 => Nat.le_refl _
  | n+1 => by rw [cntR]; have := cntR_le h v n; split <;> omega
theorem lawI : Keyed Tryz.prog 3 := int_keyed Tryz.underlying3
theorem zeroI (w : World) : (zeroValue 3).run Tryz.prog w = .ok (.int .i64 0) w := by kernel_rfl
theorem wf_of_i64 {z : Int} (h : i64 z) : (Lit.int .i64 z).wf = true := by
  obtain ⟨h1, h2⟩ := h
  simp [Lit.wf, IntKind.min, IntKind.max, IntKind.signed, IntKind.bits]
  omega
/-- a map that counts lies here -/
def CM (W : World) (gm T : Nat) (f : Int → Nat) : Prop := ∃ D : DataW Unit, W.ownsMap Tryz.prog 3 (plainElem Tryz.prog 3) gm T D ∧ IsMap D ∧ ∀ v : Int, D.atKey (.int .i64 v) (.lit (.int .i64 0)) = .lit (.int .i64 (f v : Int))
theorem CM.kept {W W' : World} {gm T : Nat} {f : Int → Nat} {row : Option Nat} (h : CM W gm T f) (hg : W.grownBy W' row) (hne : some gm ≠ row) : CM W' gm T f := by
  obtain ⟨D, h1, h2, h3⟩ := h
  exact ⟨D, h1.kept hg hne, h2, h3⟩
theorem CM.lt {W : World} {gm T : Nat} {f : Int → Nat} (h : CM W gm T f) : gm < W.heap.size := by
  obtain ⟨D, h1, _⟩ := h
  exact h1.lt
theorem CM.below {W W' : World} {gm T : Nat} {f : Int → Nat} (h : CM W gm T f) (hb : Below W.heap.size W W') : CM W' gm T f :=
  h.kept (row := none) ⟨hb.os, hb.tape, hb.output, hb.size, fun k hk _ => hb.block k hk⟩ (by simp)
theorem CM.congr {W : World} {gm T : Nat} {f g : Int → Nat} (h : CM W gm T f) (e : ∀ v, f v = g v) : CM W gm T g := by
  obtain ⟨D, h1, h2, h3⟩ := h
  exact ⟨D, h1, h2, fun v => by rw [h3, e]⟩
theorem CM.put {W' : World} {gm T : Nat} {f : Int → Nat} {D : DataW Unit} (h2 : IsMap D) (h3 : ∀ v : Int, D.atKey (.int .i64 v) (.lit (.int .i64 0)) = .lit (.int .i64 (f v : Int))) {u : Int} {z : Int} (hz : z = (f u : Int) + 1) (hown : W'.ownsMap Tryz.prog 3 (plainElem Tryz.prog 3) gm (T + 1) (D.put (.int .i64 u) (.lit (.int .i64 z)))) : CM W' gm (T + 1) (fun v => f v + if u = v then 1 else 0) := by
  refine ⟨_, hown, h2.put _ _, fun v => ?_⟩
  by_cases e : u = v
  · subst e
    rw [atKey_put_same (k := .int .i64 u) h2 trivial]
    show DataW.lit (.int .i64 z) = .lit (.int .i64 ((f u + if u = u then 1 else 0 : Nat) : Int))
    rw [if_pos rfl, hz]
    rfl
  · rw [atKey_put_other (fun h => e (by injection h with _ h; exact h.symm)), h3]
    show DataW.lit (.int .i64 ((f v : Nat) : Int)) = .lit (.int .i64 ((f v + if u = v then 1 else 0 : Nat) : Int))
    rw [if_neg e]
    rfl
set_option maxHeartbeats 6400000 in
set_option maxRecDepth 100000 in
theorem cnt1_any (gc gm T : Nat) (f : Int → Nat) (key : Int) (QA : Option Addr) (qn qc : Nat) (ql : List Int) (W : World) (hq : II W QA qn ql) (hqn : qn ≤ 8) (hT : T ≤ 488) (hf : ∀ v, f v ≤ T) (hr : ∀ j, j < qn → 0 ≤ key + gt ql j ∧ key + gt ql j ≤ 139) (hc : Blk W gc 82 #[.map (some gm)]) (hm : CM W gm T f) :
    Calls Tryz.prog 40 #[.int .i64 key, .slice QA qn qc, .pointer (some ⟨gc, 0, none⟩)] W fun e w' => e = .returned (.tuple #[]) ∧ CM w' gm (T + qn) (fun v => f v + cntR (fun j => key + gt ql j) v qn) ∧ W.grownBy w' (some gm) := by
  have HQ : Sl _ := ⟨hq⟩
  have HR : Sl _ := ⟨hr⟩
  have HC : Sl _ := ⟨hc⟩
  have HM : Sl _ := ⟨hm⟩
  have HF : Sl _ := ⟨hf⟩
  clear hq hr hc hm hf
  go_enter Tryz.func40, Tryz.ntmps40
  go_wp2_with fail
  go_loopw [6, 9] (fun s6 s9 wr => ∃ (k : Nat) (v6 : Value), k ≤ qn ∧ s9 = .int .i64 k ∧ s6 = v6 ∧ Sl (CM wr gm (T + k) (fun v => f v + cntR (fun j => key + gt ql j) v k) ∧ W.grownBy wr (some gm))) (fun _ s9 _ => qn - (RowKit.intOf s9).toNat)
  case atStart => exact ⟨0, _, Nat.zero_le _, rfl, rfl, ⟨HM.out, World.grownBy.refl _ _⟩⟩
  case round =>
    obtain ⟨k, v6, hk, rfl, rfl, HK⟩ := hrel
    by_cases hkn : k < qn
    · have hlt : (k : Int) < (qn : Int) := by omega
      have hgm : gm < W.heap.size := HM.out.lt
      have HNE : Sl (∀ g t cs, Blk W g t cs → g ≠ gm) := ⟨fun g t cs h e => by
        subst e
        obtain ⟨D, ⟨es, clock, hb, _⟩, _⟩ := HM.out
        unfold Blk at h
        rw [hb] at h; cases h⟩
      have hqk : QA = QA := rfl
      obtain ⟨ad, rfl, hab, c0⟩ := HQ.out.cell (j := k) hkn
      have c1 : wr.cell? (ad.add k) = some (.int .i64 (gt ql k)) := by
        have hbl : (ad.add k).block = ad.block := block_of_add _ _
        refine (World.cell?_of_block (HK.out.2.block _ (by rw [hbl]; exact hab) (fun e => ?_))).trans c0
        injection e with e
        rw [hbl] at e
        obtain ⟨D, ⟨es, clock, hb, _⟩, _⟩ := HM.out
        unfold World.cell? at c0
        rw [hbl, e, hb] at c0; cases c0
      have XC : Blk wr gc 82 #[.map (some gm)] := HC.out.grown HK.out.2 (fun e => by injection e with e; exact HNE.out _ _ _ HC.out e)
      have cc := XC.cell 0
      simp at cc
      have hrr := HR.out k hkn
      obtain ⟨z, hz⟩ : ∃ z, gt ql k = z := ⟨_, rfl⟩
      rw [hz] at c1 hrr
      obtain ⟨u, hu⟩ : ∃ u, key + z = u := ⟨_, rfl⟩
      rw [hu] at hrr
      have hwu : IntKind.i64.wrap (key + z) = u := by rw [hu, IntKind.wrap_i64]; omega
      have HU : Sl (key + gt ql k = u) := ⟨by rw [hz, hu]⟩
      have hfu : f u + cntR (fun j => key + gt ql j) u k ≤ 500 := by have := HF.out u; have := cntR_le (fun j => key + gt ql j) u k; omega
      obtain ⟨fu, hfe⟩ : ∃ fu, f u + cntR (fun j => key + gt ql j) u k = fu := ⟨_, rfl⟩
      rw [hfe] at hfu
      have HFE : Sl _ := ⟨hfe⟩
      have hkey : keyOf Tryz.prog 3 (.int .i64 u) = some (.int .i64 u) := keyOf_int_mk Tryz.underlying3 (wf_of_i64 ⟨by omega, by omega⟩)
      obtain ⟨D, hD1, hD2, hD3⟩ := HK.out.1
      have HD : Sl _ := ⟨And.intro hD2 hD3⟩
      clear hz hab c0 hfe hD2 hD3 XC hqk
      go_wp2_with ((with_reducible show wpList _ _ _ _ _ _); first
        | (at_lookup; refine wpList_lookup_own_int _ rfl _ _ 82 rfl 3 3 .i64 lawI Tryz.underlying82 Tryz.underlying3 (zeroI _) gm (T + k) D rfl hD1 (.int .i64 u) (.int .i64 u) rfl hkey ?_; intro cv hat hwc; obtain rfl : cv = (fu : Int) := (by have h := (HD.out.2 u).symm.trans hat; injection h with h; injection h with _ h; rw [← h, ← HFE.out]))
        | (at_mapUpdate; refine wpList_mapUpdate_own _ rfl _ _ _ 82 rfl 3 3 lawI Tryz.underlying82 _ gm (T + k) D rfl hD1 (by unfold maxLen; omega) (.int .i64 u) (.int .i64 ((fu : Int) + 1)) (.int .i64 u) rfl rfl hkey (.lit (.int .i64 ((fu : Int) + 1))) [] (plainElem_int Tryz.underlying3 (wf_of_i64 ⟨by omega, by omega⟩)) ?_; intro w1 hown1 hgrow1; have HN : Sl (CM w1 gm (T + k + 1) (fun v => f v + cntR (fun j => key + gt ql j) v k + if u = v then 1 else 0)) := ⟨CM.put HD.out.1 HD.out.2 (by rw [← HFE.out]) hown1⟩; have HGG : Sl (W.grownBy w1 (some gm)) := ⟨HK.out.2.trans hgrow1⟩; clear hown1 hgrow1))
      refine ⟨⟨k + 1, _, hkn, by go_num, rfl, ⟨HN.out.congr (fun v => ?_), HGG.out⟩⟩, by simp [RowKit.intOf]; omega⟩
      rw [cntR, HU.out, Nat.add_assoc]
    · obtain rfl : k = qn := by omega
      go_wp2_with fail
      go_end0
      exact ⟨rfl, HK.out.1, HK.out.2⟩
theorem CM.mono {W : World} {gm T T' : Nat} {f : Int → Nat} (h : CM W gm T f) (ht : T ≤ T') : CM W gm T' f := by
  obtain ⟨D, h1, h2, h3⟩ := h
  exact ⟨D, h1.mono ht, h2, h3⟩
theorem Mx.Fine.cnt_le {x : Mx} (h : x.Fine) (v : Int) : ∀ k, k ≤ x.keys → x.cnt v k ≤ 8 * k
  | 0, _ => Nat.le_refl _
  | k+1, hk => by
    have h1 := h.cnt_le v k (by omega)
    have h2 : (x.row (x.key k)).count v ≤ (x.row (x.key k)).length := List.count_le_length
    have h3 := h.key_in (k := k) (by omega)
    have h4 := h.k1 _ (h.ord.at_in h3.1 h3.2).1
    rw [x.row_len] at h2
    rw [Mx.cnt]; omega
/-- what Counts keeps between its keys -/
def CntI (x : Mx) (w0 : World) (gx gc gm : Nat) (a b : Int) (A : Option Addr) (n c : Nat) (k : Nat) (W : World) : Prop :=
  Blk W gx 24 #[.int .i64 a, .int .i64 b, .slice A n c] ∧ Blk W gc 82 #[.map (some gm)] ∧ CM W gm (8 * k) (fun v => x.cnt v k) ∧ Below w0.heap.size w0 W
theorem CntI.inv {x : Mx} {w0 : World} {gx gc gm : Nat} {a b : Int} {A : Option Addr} {n c : Nat} {L : List Bk} (hM : MXA w0 A n c L) : EachInv gx a b A n c L (CntI x w0 gx gc gm a b A n c) := by
  refine ⟨fun k W h => ⟨h.1, hM.below h.2.2.2⟩, fun k W W' h hb => ?_⟩
  obtain ⟨h1, h2, h3, h4⟩ := h
  exact ⟨h1.below hb h1.lt, h2.below hb h2.lt, h3.below hb, h4.trans (hb.mono h4.size)⟩
theorem blk_ne_map {W : World} {g gm T : Nat} {t : TypeId} {cs : Array Value} {f : Int → Nat} (h : Blk W g t cs) (hm : CM W gm T f) : some g ≠ some gm := fun e => by
  injection e with e
  subst e
  obtain ⟨D, ⟨es, clock, hb, _⟩, _⟩ := hm
  unfold Blk at h
  rw [hb] at h; cases h
theorem cntS_any (x : Mx) (w0 : World) (gx gc gm : Nat) (a b : Int) (A : Option Addr) (n c : Nat) (L : List Bk) (hx : mxO a b L = x) (hF : x.Fine) (hS : x.snd = false) (hgm : w0.heap.size ≤ gm) (k : Nat) (q : Bk) (W : World) (hk : k < x.keys) (hq : L[x.at (x.key k) x.n]? = some q) (hI : CntI x w0 gx gc gm a b A n c k W) (hM : MXA w0 A n c L) :
    Calls Tryz.prog 40 #[.int .i64 (x.key k), .slice q.A q.n q.c, .pointer (some ⟨gc, 0, none⟩)] W fun e w' => e = .returned (.tuple #[]) ∧ CntI x w0 gx gc gm a b A n c (k + 1) w' ∧ ∀ g5 cs, Blk W g5 49 cs → Blk w' g5 49 cs := by
  obtain ⟨h1, h2, h3, h4⟩ := hI
  have hkin := hF.key_in hk
  have hat := (hF.ord.at_in hkin.1 hkin.2).1
  have hrk : x.rk (x.at (x.key k) x.n) = q.l := by rw [← hx]; rw [← hx] at hq; exact (mxO_at hq).2
  have hII : II W q.A q.n q.l := (hM.below h4).mx.rk q (List.mem_of_getElem? hq)
  have hqn : q.n ≤ 8 := by
    have a1 := hF.k1 _ hat
    rw [hrk, hII.1] at a1; exact a1
  have hk61 := hF.keys_pos.2
  refine (cnt1_any gc gm (8 * k) _ (x.key k) q.A q.n q.c q.l W hII hqn (by omega) (fun v => hF.cnt_le v k (by omega)) (fun j hj => ?_) h2 h3).mono fun e w' h => ⟨h.1, ⟨h1.grown h.2.2 (blk_ne_map h1 h3), h2.grown h.2.2 (blk_ne_map h2 h3), ?_, h4.grown h.2.2 h4.size (fun z hz => by injection hz with hz; omega)⟩, fun g5 cs h5 => h5.grown h.2.2 (blk_ne_map h5 h3)⟩
  · have h5 := hF.row_bd hS hkin.1 hkin.2 (j := j) (by rw [hrk, hII.1]; exact hj)
    rw [hrk] at h5
    omega
  · refine (h.2.1.mono (T' := 8 * (k + 1)) (by omega)).congr fun v => ?_
    rw [Mx.cnt, row_cntR hrk hII.1]
/-- the counts -/
def Mx.cnts (x : Mx) : List (Nat × Nat) := if x.chk = 0 then x.counts 140 else []
def cC (p : Nat × Nat) : List Value := [.int .i64 (p.1 : Int), .int .i64 (p.2 : Int)]
/-- what Counts tells -/
def CntR (x : Mx) (e : Ending) (w' : World) : Prop := ∃ A c, e = .returned (.tuple #[.slice A x.cnts.length c, .int .i64 x.chk]) ∧ Reads w' w'.heap.size 2 A x.cnts.length (x.cnts.flatMap cC)
theorem CntR.bad {x : Mx} {r : Int} {w' : World} (h : x.chk = r) (h0 : r ≠ 0) : CntR x (.returned (.tuple #[.slice none 0 0, .int .i64 r])) w' := by
  have e : x.cnts = [] := by unfold Mx.cnts; rw [if_neg (by rw [h]; exact h0)]
  exact ⟨none, 0, by rw [e, h]; rfl, by rw [e]; exact Reads.none_⟩
theorem own_slice2 {w : World} {base size n : Nat} {e : TypeId} {v : Value} {xs : List Value} (h : w.ownsRow base e size v n xs) : ∃ A c, v = .slice A n c ∧ Reads w w.heap.size size A n xs := by
  have hr : ∃ A c, v = .slice A n c := by
    rcases h.2 with ⟨h1, h2⟩ | ⟨g, cap, cur, h1, _⟩
    · exact ⟨none, 0, by rw [h1, h2]⟩
    · exact ⟨_, _, h1⟩
  obtain ⟨A, c, rfl⟩ := hr
  exact ⟨A, c, rfl, Reads.of_own h⟩
theorem Mx.counts_len (x : Mx) : ∀ k, (x.counts k).length ≤ k
  | 0 => Nat.le_refl _
  | k+1 => by
    rw [Mx.counts]
    have := x.counts_len k
    split
    · rw [List.length_append]; simp; omega
    · omega
theorem infoCnt : ∃ (i : TypeInfo) (z : Value), Tryz.prog.info? 47 = some i ∧ i.zero = some z ∧ i.size = 2 ∧ i.bytes = 16 ∧ z.cells.size = 2 := by
  have h : (Tryz.prog.info? 47).isSome = true := by kernel_rfl
  obtain ⟨i, hi⟩ := Option.isSome_iff_exists.1 h
  have h1 : (Tryz.prog.info? 47).bind (·.zero) = some (.agg #[.int .i64 0, .int .i64 0]) := by kernel_rfl
  have h2 : (Tryz.prog.info? 47).map (·.size) = some 2 := by kernel_rfl
  have h3 : (Tryz.prog.info? 47).map (·.bytes) = some 16 := by kernel_rfl
  rw [hi] at h1 h2 h3
  exact ⟨i, _, hi, by simpa using h1, by simpa using h2, by simpa using h3, rfl⟩
theorem xreadsN (W : World) (T : TypeId) (cs : List Value) (sz : Nat) (h : cs.length = sz) : Reads (W.alloc (.cells cs.toArray T)) (W.heap.size + 1) sz (some ⟨W.heap.size, 0, none⟩) 1 cs := by
  refine ⟨by omega, fun _ => ⟨_, rfl, Nat.lt_succ_self _, fun j u hu => ?_⟩⟩
  have e : (⟨W.heap.size, 0, none⟩ : Addr).add j = ⟨W.heap.size, j, none⟩ := by
    unfold Addr.add
    by_cases h : j = 0
    · subst h; simp
    · simp [h]
  rw [e, (Blk.new W T cs.toArray).cell j]
  simpa using hu
set_option maxHeartbeats 6400000 in
set_option maxRecDepth 100000 in
theorem Counts_any (a b : Int) (A : Option Addr) (n c : Nat) (L : List Bk) (w : World) (hM : MXA w A n c L) (ha : i64 a) (hb : i64 b) :
    Calls Tryz.prog 17 #[.agg #[.int .i64 a, .int .i64 b, .slice A n c]] w fun e w' => CntR (mxO a b L) e w' ∧ Below w.heap.size w w' := by
  have hmf : ∀ (fn : Fn) (first cap : Array Value) (w : World), (Instr.makeFunc fn first cap).run Tryz.prog w = .ok (.func fn first cap) w := fun _ _ _ _ => rfl
  have hmm := @run_makeMap Tryz.prog
  have HU : Sl (Below w.heap.size w (w.alloc (.cells #[.int .i64 a, .int .i64 b, .slice A n c] 24))) := ⟨(Below.refl _ _).alloc (Nat.le_refl _) _⟩
  have HBK : Sl _ := ⟨Blk.new w 24 #[.int .i64 a, .int .i64 b, .slice A n c]⟩
  have HM : Sl _ := ⟨hM⟩
  have HCK : Sl _ := ⟨Check_any a b A n c L _ (hM.below HU.out) ha hb⟩
  clear hM ha hb
  obtain ⟨i2, z2, hi0, hz0, hz1, hz2, hz3⟩ := infoCnt
  have HI : Sl _ := ⟨And.intro hi0 (And.intro hz0 (And.intro hz1 (And.intro hz2 hz3)))⟩
  clear hi0 hz0 hz1 hz2 hz3
  obtain ⟨x, hx⟩ : ∃ x, mxO a b L = x := ⟨_, rfl⟩
  rw [hx] at HCK ⊢
  have HX : Sl _ := ⟨hx⟩
  clear hx
  obtain ⟨r, hr⟩ : ∃ r, x.chk = r := ⟨_, rfl⟩
  rw [hr] at HCK
  have HR : Sl _ := ⟨hr⟩
  clear hr
  go_enter Tryz.func17, Tryz.ntmps17
  go_wp2_with fail
  generalize w.alloc (.cells #[.int .i64 a, .int .i64 b, .slice A n c] 24) = w0 at *
  refine HCK.out.mono ?_; rintro e w1 ⟨rfl, hb⟩
  replace HU : Sl (Below w.heap.size w w1) := ⟨HU.out.trans (hb.mono HU.out.size)⟩
  replace HBK : Sl (Blk w1 w.heap.size _ _) := ⟨HBK.out.below hb HBK.out.lt⟩
  clear hb HCK
  by_cases h0 : r = 0
  · have h0b : (r != 0) = false := by rw [h0]; rfl
    have HCH : Sl (x.chk = 0) := ⟨by rw [HR.out, h0]⟩
    have HF : Sl x.Fine := ⟨Mx.fine (Mx.chk_ok HCH.out).1⟩
    have HS : Sl (x.snd = false) := ⟨(Mx.chk_ok HCH.out).2⟩
    clear HR
    go_wp2_with fail
    have hg : w1.grownBy ((w1.alloc (.map #[] 0)).alloc (.cells #[.map (some w1.heap.size)] 82)) none := (World.grownBy_alloc w1 _ none).trans (World.grownBy_alloc _ _ none)
    have hbw : Below w1.heap.size w1 ((w1.alloc (.map #[] 0)).alloc (.cells #[.map (some w1.heap.size)] 82)) := ((Below.refl _ _).alloc (Nat.le_refl _) _).alloc (by simp) _
    have hcm : CM ((w1.alloc (.map #[] 0)).alloc (.cells #[.map (some w1.heap.size)] 82)) w1.heap.size (8 * 0) (fun v => x.cnt v 0) := ⟨.map [], (World.ownsMap_made w1 _ _ _).alloc _, isMap_empty, fun v => rfl⟩
    have hbn := Blk.new (w1.alloc (.map #[] 0)) 82 #[.map (some w1.heap.size)]
    rw [show (w1.alloc (.map #[] 0)).heap.size = w1.heap.size + 1 by simp] at hbn
    have hI0 : CntI x w w.heap.size (w1.heap.size + 1) w1.heap.size a b A n c 0 ((w1.alloc (.map #[] 0)).alloc (.cells #[.map (some w1.heap.size)] 82)) := ⟨HBK.out.below hbw HBK.out.lt, hbn, hcm, HU.out.trans (hbw.mono HU.out.size)⟩
    have hea := eachC_any w.heap.size (w1.heap.size + 1) a b A n c L (CntI x w w.heap.size (w1.heap.size + 1) w1.heap.size a b A n c) _ (by rw [HX.out]; exact HF.out) (CntI.inv HM.out) hI0 (fun k q W hk hq hI => by
      rw [HX.out] at hk hq ⊢
      exact cntS_any x w w.heap.size (w1.heap.size + 1) w1.heap.size a b A n c L HX.out HF.out HS.out HU.out.size k q W hk hq hI HM.out)
    rw [HX.out] at hea
    have HEA : Sl _ := ⟨hea⟩
    clear hg hbw hcm hbn hI0 hea
    refine HEA.out.mono ?_; rintro e w2 ⟨rfl, h1, h2, h3, h4⟩
    have HC2 : Sl _ := ⟨h2⟩
    have HM2 : Sl _ := ⟨h3⟩
    have HU2 : Sl _ := ⟨h4⟩
    clear h1 h2 h3 h4 HEA
    go_wp2_with fail
    go_loopw [6, 7, 16] (fun s6 s7 s16 wr => ∃ (k : Nat) (v v7 : Value), k ≤ 140 ∧ s16 = .int .i64 k ∧ v = s6 ∧ s7 = v7 ∧ Sl (wr.ownsRow w2.heap.size 47 2 v (x.counts k).length ((x.counts k).flatMap cC) ∧ Below w2.heap.size w2 wr)) (fun _ _ s16 _ => 140 - (RowKit.intOf s16).toNat)
    case atStart => exact ⟨0, _, _, by decide, rfl, rfl, rfl, ⟨World.ownsRow_nil _ _ _ _, Below.refl _ _⟩⟩
    case round =>
      obtain ⟨k, v, v7, hk, rfl, rfl, rfl, HK⟩ := hrel
      by_cases hk140 : k < 140
      · have hkI : (k : Int) < 140 := by omega
        have cc := (HC2.out.below HK.out.2 HC2.out.lt).cell 0
        simp at cc
        have HMr : Sl (CM wr w1.heap.size (8 * x.keys) (fun v => x.cnt v x.keys)) := ⟨HM2.out.below HK.out.2⟩
        have hfu : x.cnt (k : Int) x.keys ≤ 500 := by have := HF.out.cnt_le (k : Int) x.keys (Nat.le_refl _); have := HF.out.keys_pos; omega
        obtain ⟨fu, hfe⟩ : ∃ fu, x.cnt (k : Int) x.keys = fu := ⟨_, rfl⟩
        rw [hfe] at hfu
        have HFE : Sl _ := ⟨hfe⟩
        have hkey : keyOf Tryz.prog 3 (.int .i64 (k : Int)) = some (.int .i64 (k : Int)) := keyOf_int_mk Tryz.underlying3 (wf_of_i64 ⟨by omega, by omega⟩)
        obtain ⟨D, hD1, hD2, hD3⟩ := HMr.out
        have HD : Sl _ := ⟨And.intro hD2 hD3⟩
        have hcl := x.counts_len k
        have HCS : Sl (x.counts (k + 1) = if 0 < fu then x.counts k ++ [(k, fu)] else x.counts k) := ⟨by rw [Mx.counts, HFE.out]⟩
        clear hfe hD2 hD3
        obtain ⟨nd, hnd⟩ : ∃ nd, (x.counts k).length = nd := ⟨_, rfl⟩
        rw [hnd] at hcl
        have hko := HK.out.1
        rw [hnd] at hko
        have HKO : Sl _ := ⟨hko⟩
        have HND : Sl _ := ⟨hnd⟩
        clear hko hnd
        by_cases hf0 : 0 < fu
        · have hfI : (0 : Int) < (fu : Int) := by omega
          have hfd : decide ((0 : Int) < (fu : Int)) = true := decide_eq_true hfI
          have HCT : Sl (x.counts (k + 1) = x.counts k ++ [(k, fu)]) := ⟨by rw [HCS.out, if_pos hf0]⟩
          go_wp2_with ((with_reducible show wpList _ _ _ _ _ _); first
            | (at_lookup; refine wpList_lookup_own_int _ rfl _ _ 82 rfl 3 3 .i64 lawI Tryz.underlying82 Tryz.underlying3 (zeroI _) w1.heap.size (8 * x.keys) D rfl hD1 (.int .i64 (k : Int)) (.int .i64 (k : Int)) rfl hkey ?_; intro cv hat hwc; obtain rfl : cv = (fu : Int) := (by have h := (HD.out.2 (k : Int)).symm.trans hat; injection h with h; injection h with _ h; rw [← h, ← HFE.out]))
            | (at_builtin; (refine wpList_append_any _ rfl (.tmp 23) (.tmp 29) _ rfl w2.heap.size 47 i2 z2 2 16 Tryz.underlying40 HI.out.1 HI.out.2.1 HI.out.2.2.1 HI.out.2.2.2.1 HI.out.2.2.2.2 (by decide) v nd _ rfl (xown_alloc HKO.out _) _ (some ⟨wr.heap.size, 0, none⟩) 1 1 [.int .i64 (k : Int), .int .i64 (fu : Int)] rfl (xreadsN wr _ [.int .i64 (k : Int), .int .i64 (fu : Int)] 2 rfl) (by intro u hu; simp at hu; rcases hu with rfl | rfl <;> rfl) (by unfold maxLen; omega) (by omega) (by have := HK.out.2.size; simp; omega) ?_; rintro v6 w6 hown hg hat; have XQ : Sl (w6.ownsRow w2.heap.size 47 2 v6 (x.counts (k + 1)).length ((x.counts (k + 1)).flatMap cC)) := ⟨by rw [HCT.out, List.flatMap_append, List.length_append, HND.out]; exact hown⟩; have HLN : Sl (Below w2.heap.size w2 w6) := ⟨xbelow_grown HK.out.2 HK.out.2.size HKO.out hg⟩; clear hown hg hat)))
          exact ⟨⟨k + 1, v6, _, hk140, by go_num, rfl, rfl, ⟨XQ.out, HLN.out⟩⟩, by simp [RowKit.intOf]; omega⟩
        · have hfI : ¬ (0 : Int) < (fu : Int) := by omega
          have hfd : decide ((0 : Int) < (fu : Int)) = false := decide_eq_false hfI
          have HCT : Sl (x.counts (k + 1) = x.counts k) := ⟨by rw [HCS.out, if_neg hf0]⟩
          go_wp2_with ((with_reducible show wpList _ _ _ _ _ _); first
            | (at_lookup; refine wpList_lookup_own_int _ rfl _ _ 82 rfl 3 3 .i64 lawI Tryz.underlying82 Tryz.underlying3 (zeroI _) w1.heap.size (8 * x.keys) D rfl hD1 (.int .i64 (k : Int)) (.int .i64 (k : Int)) rfl hkey ?_; intro cv hat hwc; obtain rfl : cv = (fu : Int) := (by have h := (HD.out.2 (k : Int)).symm.trans hat; injection h with h; injection h with _ h; rw [← h, ← HFE.out])))
          exact ⟨⟨k + 1, v, _, hk140, by go_num, rfl, rfl, ⟨by rw [HCT.out]; exact HK.out.1, HK.out.2⟩⟩, by simp [RowKit.intOf]; omega⟩
      · obtain rfl : k = 140 := by omega
        obtain ⟨A2, c2, rfl, hrd⟩ := own_slice2 HK.out.1
        have HRD : Sl _ := ⟨hrd⟩
        clear hrd
        go_wp2_with fail
        go_ret2
        have e : x.cnts = x.counts 140 := by unfold Mx.cnts; rw [if_pos HCH.out]
        exact ⟨⟨A2, c2, by rw [e, HCH.out]; rfl, by rw [e]; exact HRD.out⟩, HU2.out.trans (HK.out.2.mono HU2.out.size)⟩
  · have h0b : (r != 0) = true := by simpa using h0
    have H0 : Sl _ := ⟨h0⟩
    go_wp2_with fail
    go_ret2
    exact ⟨CntR.bad HR.out H0.out, HU.out⟩
end Go.Proofs.YtkjkbhkcebbjdaaGreatDoor
