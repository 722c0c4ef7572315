/- The program's sequence alone: edits, undone and done again; lists that Frames returned. -/
import Derived.Test.YtabkpbbjodfolaaGreatDoorZuAf
namespace Go.Proofs.YtabkpbbjodfolaaGreatDoor
set_option linter.unusedSimpArgs false
open Go.RowKit
set_option linter.unusedVariables false
theorem exO_ok (A1 A2 A3 A4 P1 P2 P3 : Option Addr) : specE (exO A1 A2 A3 A4 P1 P2 P3) = 0 := by kernel_rfl
theorem sm_of2 {w w' : World} {r s : RgV} (hr : RgM w r) (hs : RgM w' s) (hv : s.v = r.v) (h : smR s) : smR r := by
  obtain ⟨a, b⟩ := v_eq hv
  have e1 := hr.s.1
  have e2 := hr.c.1
  have e3 := hs.s.1
  have e4 := hs.c.1
  rw [a] at e3
  rw [b] at e4
  unfold smR at h ⊢
  omega
structure One (w0 w : World) (oq : SpO) (m : SqM) (V : SqV RgV) : Prop where
  q : SQ w w0.heap.size oq m V
  s : ∃ ρ : RsV RgV, Sim V ρ
  b : Bnd smR V
  bl : Below w0.heap.size w0 w
def Fro (w : World) (m : SqM) (A : Option Addr) (c : Nat) (L0 : List RgV) : Prop := ∃ (im : Nat → Prop) (L : List RgV), (Dep w im fun W => TbM W A L0.length c L) ∧ L.map RgV.v = L0.map RgV.v ∧ (∀ r ∈ L, smR r) ∧ ∀ i, im i → i < w.heap.size ∧ ¬ m.own i
section
variable {w0 w w' : World} {oq o : SpO} {m m' : SqM} {V : SqV RgV}
theorem Pair.one {m2 : SqM} {R : RqV} (h : Pair w0 w oq o m m2 V R) : One w0 w oq m V := by
  obtain ⟨ρ, hs, _⟩ := h.s; exact ⟨h.d.q, ⟨ρ, hs⟩, h.b, h.d.bl⟩
theorem One.below (h : One w0 w oq m V) (hb : Below w.heap.size w w') : One w0 w' oq m V := ⟨h.q.below hb, h.s, h.b, h.bl.trans (hb.mono h.bl.size)⟩
theorem One.step {V' : SqV RgV} (h : One w0 w oq m V) (hF : Foot m m' w w') (hq : SQ w' w0.heap.size oq m' V') (hs : ∃ ρ : RsV RgV, Sim V' ρ) (hb : Bnd smR V') : One w0 w' oq m' V' :=
  ⟨hq, hs, hb, hF.mv.below h.bl h.bl.size (fun i e => h.q.own_ge e)⟩
theorem One.len (h : One w0 w oq m V) : V.L.length ≤ 500 ∧ V.p ≤ V.L.length ∧ V.d ≤ V.E.length ∧ V.E.length ≤ 100 := by
  obtain ⟨ρ, hs⟩ := h.s; exact ⟨hs.sq.len, hs.ok.1, hs.ok.2.1, hs.ok.2.2⟩
theorem One.sqb (h : One w0 w oq m V) (hc : Spc oq o) : SqB oq V := by have := h.len; have := hc.bd; unfold SqB; omega
theorem Fro.step {A : Option Addr} {c : Nat} {L : List RgV} (h : Fro w m A c L) (hF : Foot m m' w w') : Fro w' m' A c L := by
  obtain ⟨im, K, h1, h2, h3, h4⟩ := h; refine ⟨im, K, h1.go hF.mv (fun i hi e => (h4 i hi).2 e), h2, h3, fun i hi => ⟨Nat.lt_of_lt_of_le (h4 i hi).1 hF.mv.size, fun e => ?_⟩⟩; rcases hF.own i e with e | e
  · exact (h4 i hi).2 e
  · have := (h4 i hi).1; omega
theorem Fro.below {A : Option Addr} {c : Nat} {L : List RgV} (h : Fro w m A c L) (hb : Below w.heap.size w w') : Fro w' m A c L := h.step (Foot.of_below hb)
theorem oFrames (h : One w0 w oq m V) :
    Calls Tryz.prog 25 #[ptr m.q] w fun en w' => (∃ A c, en = .returned (.tuple #[.slice A V.L.length c, .int .i64 (V.p : Int), .int .i64 0]) ∧ Fro w' m A c V.L) ∧ Below w.heap.size w w' := by
  refine (qFrames_any w0.heap.size oq m V w h.q h.len.1 (fun r hr => h.b.L r hr)).mono fun en w' hh => ?_
  obtain ⟨⟨A, c, L, e, h1, h2⟩, hb⟩ := hh; refine ⟨⟨A, c, e, _, L, h1, h2, fun r hr => ?_, fun i hi => ⟨hi.2, fun e => ?_⟩⟩, hb⟩
  · have hm : r.v ∈ V.L.map RgV.v := (by rw [← h2]; exact List.mem_map.2 ⟨r, hr, rfl⟩); obtain ⟨s, hs, e⟩ := List.mem_map.1 hm; exact sm_of2 (h1.now.all r hr) (h.q.rg s hs).now e (h.b.L s hs)
  · have := h.q.held_lt (.inl e); have := hi.1; omega
theorem oUndo (h : One w0 w oq m V) (h0 : V.d ≠ 0) :
    Calls Tryz.prog 15 #[ptr m.q] w fun en w' => en = .returned (.int .i64 0) ∧ ∃ m', Foot m m' w w' ∧ One w0 w' oq m' V.undo := by
  obtain ⟨l5, l6, l7, l8⟩ := h.len; obtain ⟨x, hx⟩ : ∃ x, V.E[V.d - 1]? = some x := ⟨_, List.getElem?_eq_getElem (by omega)⟩; obtain ⟨ρ, hs⟩ := h.s; obtain ⟨F, hF, hEE⟩ := hs.chn
  have hko : x.e.ko V.L := by
    obtain ⟨a, b⟩ := hF.ok _ x hx; rw [← hF.now, show V.d = V.d - 1 + 1 by omega, b]; exact Ed.ko_fw a
  refine (qUndo_any w0.heap.size oq m V (V.d - 1) x w h.q (by omega) hx (by omega) l5 hko).mono fun en w' hh => ?_
  obtain ⟨rfl, m', hS, hFt⟩ := hh; rw [← SqV.undo_at hx] at hS; exact ⟨rfl, m', hFt, h.step hFt hS ⟨_, hs.undo h0⟩ h.b.undo⟩
end
theorem does_last {α : Type} (V : SqV α) (e : Ed α) (p : Nat) : (V.does e p).E[(V.does e p).d - 1]? = some ⟨e, V.p, 0⟩ ∧ (V.does e p).d = (V.does e p).E.length ∧ 0 < (V.does e p).d := by
  obtain ⟨l, hl⟩ : ∃ l : List (EdV α), trim (V.E.take V.d ++ [⟨e, V.p, 0⟩]) = l ++ [⟨e, V.p, 0⟩] := by
    unfold trim
    split
    · rename_i h
      cases hE : V.E.take V.d with
      | nil => rw [hE] at h; simp at h
      | cons a l => exact ⟨l, rfl⟩
    · exact ⟨_, rfl⟩
  have hd : (V.does e p).E = l ++ [⟨e, V.p, 0⟩] := hl; have hd2 : (V.does e p).d = (V.does e p).E.length := rfl; rw [hd2, hd]; refine ⟨?_, rfl, by simp⟩; rw [List.length_append, List.length_singleton, Nat.add_sub_cancel, List.getElem?_append_right (Nat.le_refl _), Nat.sub_self]; rfl
theorem does_undo {α : Type} (V : SqV α) (e : Ed α) (p : Nat) (h : e.ok V.L) : (V.does e p).undo.L = V.L ∧ (V.does e p).undo.p = V.p ∧ (V.does e p).undo.d ≠ (V.does e p).undo.E.length ∧ (V.does e p).undo.redo.L = (V.does e p).L ∧ (V.does e p).undo.redo.p = (V.does e p).p ∧ (V.does e p).undo.redo.d = (V.does e p).undo.redo.E.length := by
  obtain ⟨h1, h2, h3⟩ := does_last V e p; have hL : (V.does e p).L = e.fw V.L := rfl; have hp : (V.does e p).p = p := rfl; generalize V.does e p = V1 at h1 h2 h3 hL hp ⊢; rw [SqV.undo_at h1]; have hlt : V1.d - 1 < V1.E.length := (by omega); have h4 : (⟨e.bw V1.L, V.p, V1.E.set (V1.d - 1) ⟨e, V.p, V1.p⟩, V1.d - 1⟩ : SqV α).E[(⟨e.bw V1.L, V.p, V1.E.set (V1.d - 1) ⟨e, V.p, V1.p⟩, V1.d - 1⟩ : SqV α).d]? = some ⟨e, V.p, V1.p⟩ := List.getElem?_set_self hlt; rw [SqV.redo_at h4]; have hb : e.bw V1.L = V.L := (by rw [hL]; exact Ed.bw_fw h); refine ⟨hb, rfl, ?_, ?_, rfl, ?_⟩
  · show V1.d - 1 ≠ (V1.E.set _ _).length; rw [List.length_set]; omega
  · show e.fw (e.bw V1.L) = V1.L; rw [hb, hL]
  · show V1.d - 1 + 1 = (V1.E.set _ _).length; rw [List.length_set]; omega
end Go.Proofs.YtabkpbbjodfolaaGreatDoor
namespace Go.Proofs.YtabkpbbjodfolaaGreatDoor
set_option linter.unusedSimpArgs false
open Go.RowKit
set_option linter.unusedVariables false
section
variable (A1 A2 A3 A4 P1 P2 P3 a b c d e f : Option Addr)
theorem knE1 : atE (exO A1 A2 A3 A4 P1 P2 P3) (tbL a b c d) ⟨none, 0, 0, [], none, 0, 0, []⟩ 4 = 7 := by kernel_rfl
theorem knN2 : neeF (exO A1 A2 A3 A4 P1 P2 P3) (tbL a b c d) ⟨e, 1, 1, [2], none, 0, 0, []⟩ = (2, 0) := by kernel_rfl
theorem knN0 : neeF (exO A1 A2 A3 A4 P1 P2 P3) (tbL a b c d) ⟨none, 0, 0, [], none, 0, 0, []⟩ = (0, 0) := by kernel_rfl
theorem knPE : planE [7] 3 = 0 := by kernel_rfl
theorem knPS : planS [7] 3 = 7 := by kernel_rfl
theorem knPG : planG [7] 3 = [[], [], [0]] := by kernel_rfl
end
theorem knAt (A1 A2 A3 A4 P1 P2 P3 : Option Addr) (T a b c d : Option Addr) (w : World) (hM : SpM w (exO A1 A2 A3 A4 P1 P2 P3)) (hT : TbM w T 3 3 (tbL a b c d)) :
    Calls Tryz.prog 17 #[.agg #[.slice A1 1 1, .slice A2 2 2, .slice A3 3 3, .slice A4 1 1], .agg #[.slice T 3 3], .int .i64 4, .agg #[.slice none 0 0, .slice none 0 0]] w fun e w' =>
      (∃ A n c B m d, e = .returned (.tuple #[.agg #[.slice A n c, .slice B m d], .int .i64 7])) ∧ Below w.heap.size w w' := by
  refine (At_any (exO A1 A2 A3 A4 P1 P2 P3) T 3 3 (tbL a b c d) 4 ⟨none, 0, 0, [], none, 0, 0, []⟩ w hM (exO_F ..) hT (rg0_m w) (by decide)).mono ?_; rintro e w' ⟨⟨A, n, c', B, m, d', h1, h2⟩, hb⟩; rw [knE1] at h1; exact ⟨⟨A, n, c', B, m, d', h1⟩, hb⟩
theorem knNeed2 (A1 A2 A3 A4 P1 P2 P3 : Option Addr) (T a b c d : Option Addr) (ga : Nat) (w : World) (hM : SpM w (exO A1 A2 A3 A4 P1 P2 P3)) (hT : TbM w T 3 3 (tbL a b c d)) (hB : Blk w ga 3 #[.int .i64 2]) :
    Calls Tryz.prog 19 #[.agg #[.slice A1 1 1, .slice A2 2 2, .slice A3 3 3, .slice A4 1 1], .agg #[.slice T 3 3], .agg #[.slice (some ⟨ga, 0, none⟩) 1 1, .slice none 0 0]] w fun e w' =>
      e = .returned (.tuple #[.int .i64 2, .int .i64 0]) ∧ Below w.heap.size w w' := by
  refine (Needed_any (exO A1 A2 A3 A4 P1 P2 P3) T 3 3 (tbL a b c d) ⟨some ⟨ga, 0, none⟩, 1, 1, [2], none, 0, 0, []⟩ w hM (exO_F ..) hT ⟨.of_blk hB rfl rfl, II.nil _ _, ⟨Nat.le_refl _, by show 1 ≤ maxLen; decide⟩, ⟨Nat.le_refl _, Nat.zero_le _⟩⟩).mono ?_; rintro e w' ⟨h1, hb⟩; rw [knN2] at h1; exact ⟨h1, hb⟩
theorem knNeed0 (A1 A2 A3 A4 P1 P2 P3 : Option Addr) (T a b c d : Option Addr) (w : World) (hM : SpM w (exO A1 A2 A3 A4 P1 P2 P3)) (hT : TbM w T 3 3 (tbL a b c d)) :
    Calls Tryz.prog 19 #[.agg #[.slice A1 1 1, .slice A2 2 2, .slice A3 3 3, .slice A4 1 1], .agg #[.slice T 3 3], .agg #[.slice none 0 0, .slice none 0 0]] w fun e w' =>
      e = .returned (.tuple #[.int .i64 0, .int .i64 0]) ∧ Below w.heap.size w w' := by
  refine (Needed_any (exO A1 A2 A3 A4 P1 P2 P3) T 3 3 (tbL a b c d) ⟨none, 0, 0, [], none, 0, 0, []⟩ w hM (exO_F ..) hT (rg0_m w)).mono ?_; rintro e w' ⟨h1, hb⟩; rw [knN0] at h1; exact ⟨h1, hb⟩
theorem knPlan (g : Nat) (w : World) (hB : Blk w g 2 #[.int .i64 7]) :
    Calls Tryz.prog 20 #[.slice (some ⟨g, 0, none⟩) 1 1, .int .i64 3] w fun e w' =>
      (∃ A c L, e = .returned (.tuple #[.slice A 3 c, .int .i64 7, .int .i64 0]) ∧ GG w' A 3 L ∧ L.map SlV.l = [[], [], [0]]) ∧ Below w.heap.size w w' := by
  refine (crPlanS_any (some ⟨g, 0, none⟩) 1 1 [7] 3 w (.of_blk hB rfl rfl) (by decide) (by decide) (by decide)).mono ?_; rintro e w' ⟨⟨A, k, c, L, h1, h2, h3⟩, hb⟩; rw [knPG] at h3; rw [knPS, knPE] at h1; have hk : k = 3 := (by rw [← h2.len]; have := congrArg List.length h3; rw [List.length_map] at this; exact this); subst hk; exact ⟨⟨A, c, L, h1, .of_og h2, h3⟩, hb⟩
def kr1 (g : Nat) (k : Int) : RgV := ⟨some ⟨g, 0, none⟩, 1, 1, [k], none, 0, 0, []⟩
theorem kr1_m {w : World} {g : Nat} {k : Int} (h : Blk w g 3 #[.int .i64 k]) : RgM w (kr1 g k) := ⟨.of_blk h rfl rfl, II.nil _ _, ⟨Nat.le_refl _, by show 1 ≤ maxLen; decide⟩, ⟨Nat.le_refl _, Nat.zero_le _⟩⟩
theorem kr1_ok {o : SpO} (g : Nat) {k : Int} (h3 : o.n3 = 3) (hk : k = 0 ∨ k = 1) : regE o (kr1 g k) = 0 := by
  unfold regE; rw [h3]; rcases hk with rfl | rfl <;> rfl
section
variable {w0 w w' : World} {oq o : SpO} {m m' : SqM} {V : SqV RgV}
theorem kInsert (h : One w0 w oq m V) (hc : Spc oq o) (r : RgV) (hP : RgM w r) (hr : regE oq r = 0) (hL : V.L.length < 500) (hp : V.p = 0) :
    Calls Tryz.prog 12 #[ptr m.q, .int .i64 0, .agg #[.slice r.A r.n r.c, .slice r.B r.m r.d]] w fun en w' =>
      en = .returned (.int .i64 0) ∧ ∃ m' r', (r'.l = r.l ∧ r'.k = r.k) ∧ Foot m m' w w' ∧ One w0 w' oq m' (V.does (.ins 0 r') 0) := by
  refine (qInsert_any w0.heap.size oq m V 0 r w h.q hc.fq hP (h.sqb hc)).mono fun en w' hh => ?_
  obtain ⟨rfl, m', r', hr', hS, hF⟩ := hh
  have h0 : insE oq V 0 r = 0 := by
    unfold insE; rw [if_neg (by omega), if_neg (by rw [hr]; exact fun e => e rfl), if_neg (by omega)]
  have hq : (if (0 : Int) < (V.p : Int) then V.p + 1 else V.p) = 0 := (by rw [hp]; rfl); rw [if_pos h0, hq] at hS; have hok : (Ed.ins 0 r').ok V.L := ⟨Nat.zero_le _, hL⟩; obtain ⟨ρ, hs⟩ := h.s; refine ⟨by rw [h0], m', r', hr', hF, h.step hF hS ⟨_, hs.edit hok (Nat.zero_le _)⟩ (h.b.does (e := .ins 0 r') ?_ _)⟩; have hm : r' ∈ (V.does (.ins (0 : Int).toNat r') 0).L := List.mem_append.2 (.inr List.mem_cons_self); exact sm_of (hS.rg r' hm).now (v_of hr').symm hr hc.bd
theorem kNext (h : One w0 w oq m V) (x : RgV) (hx : V.L[V.p]? = some x) :
    Calls Tryz.prog 22 #[ptr m.q] w fun en w' =>
      (∃ A c B d, en = .returned (.tuple #[.agg #[.slice A x.n c, .slice B x.m d], .int .i64 0]) ∧ Dep w' (fun i => w.heap.size ≤ i) fun W => RgM W ⟨A, x.n, c, x.l, B, x.m, d, x.k⟩) ∧ One w0 w' oq m { V with p := V.p + 1 } ∧ Foot m m w w' := by
  have hb := h.b.L x (List.mem_of_getElem? hx); have hlt := (List.getElem?_eq_some_iff.1 hx).1; refine (qNext_any w0.heap.size oq m V x w h.q h.len.1 hx hb.1 hb.2).mono fun en w' hh => ?_
  obtain ⟨h1, hS, hF⟩ := hh; obtain ⟨ρ, hs⟩ := h.s; exact ⟨h1, h.step hF hS ⟨_, hs.pos hlt⟩ (h.b.pos _), hF⟩
theorem kDelete (h : One w0 w oq m V) (hc : Spc oq o) (x : RgV) (hx : V.L[0]? = some x) (hp : V.p = 2) :
    Calls Tryz.prog 24 #[ptr m.q, .int .i64 0] w fun en w' =>
      en = .returned (.int .i64 0) ∧ ∃ m', Foot m m' w w' ∧ One w0 w' oq m' (V.does (.del 0 x) 1) := by
  have hlt := (List.getElem?_eq_some_iff.1 hx).1; have h0 : delE V 0 = 0 := (by unfold delE; rw [if_neg (by omega)]); refine (qDelete_any w0.heap.size oq m V 0 w h.q (h.sqb hc)).mono fun en w' hh => ?_
  obtain ⟨rfl, m', hS1, hS2, hF⟩ := hh; obtain ⟨y, hy, hS⟩ := hS2 h0; have hxy : x = y := Option.some.inj (hx.symm.trans hy); subst hxy; have hq : (if (0 : Int) < (V.p : Int) then V.p - 1 else V.p) = 1 := (by rw [hp]; rfl); rw [hq] at hS; obtain ⟨ρ, hs⟩ := h.s; have h2 := h.len; refine ⟨by rw [h0], m', hF, h.step hF hS ⟨_, hs.edit (e := .del 0 x) hx ?_⟩ (h.b.does (e := .del 0 x) (h.b.L x (List.mem_of_getElem? hx)) _)⟩; show 1 ≤ (delL V.L 0).length; rw [delL_len hlt]; omega
def KVl (w0 w : World) (oq : SpO) (m : SqM) (L : List Int) (p : Nat) : Prop := ∃ V : SqV RgV, One w0 w oq m V ∧ V.L.map RgV.v = L.map (fun k => ([k], ([] : List Int))) ∧ V.p = p
def KDl (w0 w : World) (oq : SpO) (m : SqM) (L : List Int) (p : Nat) (L' : List Int) (p' : Nat) : Prop := ∃ V : SqV RgV, One w0 w oq m V ∧ V.L.map RgV.v = L.map (fun k => ([k], ([] : List Int))) ∧ V.p = p ∧ V.d ≠ 0 ∧ V.undo.L.map RgV.v = L'.map (fun k => ([k], ([] : List Int))) ∧ V.undo.p = p'
def KFl (w : World) (A : Option Addr) (c : Nat) (L : List Int) : Prop := ∃ K, TbM w A L.length c K ∧ K.map RgV.v = L.map (fun k => ([k], ([] : List Int))) ∧ ∀ r ∈ K, smR r
theorem KVl.below {L : List Int} {p : Nat} (h : KVl w0 w oq m L p) (hb : Below w.heap.size w w') : KVl w0 w' oq m L p := by
  obtain ⟨V, h1, h2⟩ := h; exact ⟨V, h1.below hb, h2⟩
theorem KVl.bl {L : List Int} {p : Nat} (h : KVl w0 w oq m L p) : Below w0.heap.size w0 w := by
  obtain ⟨V, h1, h2⟩ := h; exact h1.bl
theorem KVl.lt {L : List Int} {p i : Nat} (h : KVl w0 w oq m L p) (hi : m.own i) : i < w.heap.size := by
  obtain ⟨V, h1, h2⟩ := h; exact h1.q.held_lt (.inl hi)
theorem KDl.below {L L' : List Int} {p p' : Nat} (h : KDl w0 w oq m L p L' p') (hb : Below w.heap.size w w') : KDl w0 w' oq m L p L' p' := by
  obtain ⟨V, h1, h2⟩ := h; exact ⟨V, h1.below hb, h2⟩
theorem KDl.kv {L L' : List Int} {p p' : Nat} (h : KDl w0 w oq m L p L' p') : KVl w0 w oq m L p := by
  obtain ⟨V, h1, h2, h3, _⟩ := h; exact ⟨V, h1, h2, h3⟩
theorem KFl.below {A : Option Addr} {c : Nat} {L : List Int} (h : KFl w A c L) (hb : Below w.heap.size w w') : KFl w' A c L := by
  obtain ⟨K, h1, h2⟩ := h; exact ⟨K, h1.below hb, h2⟩
theorem kIns {L' : List Int} (h : KVl w0 w oq m L' 0) (h5 : L'.length < 500) (hc : Spc oq o) (h3 : oq.n3 = 3) (g : Nat) (k : Int) (hk : k = 0 ∨ k = 1) (hB : Blk w g 3 #[.int .i64 k]) :
    Calls Tryz.prog 12 #[ptr m.q, .int .i64 0, .agg #[.slice (some ⟨g, 0, none⟩) 1 1, .slice none 0 0]] w fun en w' =>
      en = .returned (.int .i64 0) ∧ ∃ m', Foot m m' w w' ∧ KVl w0 w' oq m' (k :: L') 0 := by
  obtain ⟨V, h1, h2, h4⟩ := h; have hl : V.L.length = L'.length := (by have := congrArg List.length h2; simpa using this); refine (kInsert h1 hc (kr1 g k) (kr1_m hB) (kr1_ok g h3 hk) (by omega) h4).mono fun en w' hh => ?_
  obtain ⟨rfl, m', r', hr, hF, hO⟩ := hh; refine ⟨rfl, m', hF, _, hO, ?_, rfl⟩; show (r' :: V.L).map RgV.v = _; rw [List.map_cons, List.map_cons, h2]; congr 1; unfold RgV.v; rw [hr.1, hr.2]; rfl
theorem kNxt {L : List Int} {p : Nat} {k : Int} (h : KVl w0 w oq m L p) (hk : L[p]? = some k) :
    Calls Tryz.prog 22 #[ptr m.q] w fun en w' =>
      (∃ A n c B j d, en = .returned (.tuple #[.agg #[.slice A n c, .slice B j d], .int .i64 0]) ∧ (Dep w' (fun i => w.heap.size ≤ i) fun W => RgM W ⟨A, n, c, [k], B, j, d, []⟩)) ∧ KVl w0 w' oq m L (p + 1) ∧ Foot m m w w' := by
  obtain ⟨V, h1, h2, h3⟩ := h; have hx : (V.L.map RgV.v)[V.p]? = some ([k], []) := (by rw [h2, h3, List.getElem?_map, hk]; rfl); rw [List.getElem?_map] at hx; obtain ⟨x, hx1, hx2⟩ := Option.map_eq_some_iff.1 hx; have e1 : x.l = [k] := congrArg Prod.fst hx2; have e2 : x.k = [] := congrArg Prod.snd hx2; refine (kNext h1 x hx1).mono fun en w' hh => ?_
  obtain ⟨⟨A, c, B, d, rfl, hd⟩, hO, hF⟩ := hh; rw [e1, e2] at hd; exact ⟨⟨A, _, c, B, _, d, rfl, hd⟩, ⟨_, hO, h2, congrArg (· + 1) h3⟩, hF⟩
theorem kDel {k1 k0 : Int} (h : KVl w0 w oq m [k1, k0] 2) (hc : Spc oq o) :
    Calls Tryz.prog 24 #[ptr m.q, .int .i64 0] w fun en w' =>
      en = .returned (.int .i64 0) ∧ ∃ m', Foot m m' w w' ∧ KDl w0 w' oq m' [k0] 1 [k1, k0] 2 := by
  obtain ⟨V, h1, h2, h3⟩ := h; have hn : V.L.length = 2 := (by have := congrArg List.length h2; simpa using this)
  obtain ⟨x, y, hL⟩ : ∃ x y, V.L = [x, y] := by
    rcases hv : V.L with _ | ⟨x, _ | ⟨y, _ | ⟨z, l⟩⟩⟩
    · rw [hv] at hn; cases hn
    · rw [hv] at hn; cases hn
    · exact ⟨x, y, rfl⟩
    · rw [hv] at hn; simp at hn
  have hx : V.L[0]? = some x := (by rw [hL]; rfl); refine (kDelete h1 hc x hx h3).mono fun en w' hh => ?_
  obtain ⟨rfl, m', hF, hO⟩ := hh; obtain ⟨u1, u2, _⟩ := does_undo V (.del 0 x) 1 hx; refine ⟨rfl, m', hF, _, hO, ?_, rfl, by have := (does_last V (.del 0 x) 1).2.2; omega, by rw [u1, h2], by rw [u2, h3]⟩; show (delL V.L 0).map RgV.v = _; rw [hL]; rw [hL] at h2; exact congrArg (List.drop 1) h2
theorem kUnd {L L' : List Int} {p p' : Nat} (h : KDl w0 w oq m L p L' p') :
    Calls Tryz.prog 15 #[ptr m.q] w fun en w' => en = .returned (.int .i64 0) ∧ ∃ m', Foot m m' w w' ∧ KVl w0 w' oq m' L' p' := by
  obtain ⟨V, h1, h2, h3, h4, h5, h6⟩ := h; refine (oUndo h1 h4).mono fun en w' hh => ?_
  obtain ⟨rfl, m', hF, hO⟩ := hh; exact ⟨rfl, m', hF, _, hO, h5, h6⟩
theorem kFrm {L : List Int} {p : Nat} (h : KVl w0 w oq m L p) :
    Calls Tryz.prog 25 #[ptr m.q] w fun en w' => (∃ A c, en = .returned (.tuple #[.slice A L.length c, .int .i64 (p : Int), .int .i64 0]) ∧ KFl w' A c L) ∧ Below w.heap.size w w' := by
  obtain ⟨V, h1, h2, h3⟩ := h; have hl : V.L.length = L.length := (by have := congrArg List.length h2; simpa using this); refine (oFrames h1).mono fun en w' hh => ?_
  obtain ⟨⟨A, c, rfl, im, K, k1, k2, k3, _⟩, hb⟩ := hh; have k4 := k1.now; rw [hl] at k4; exact ⟨⟨A, c, by rw [hl, h3], K, k4, k2.trans h2, k3⟩, hb⟩
theorem kSam {A B : Option Addr} {c d : Nat} {L : List Int} {K : List RgV} (hA : KFl w A c L) (hB : TbM w B L.length d K) (he : K.map RgV.v = L.map (fun k => ([k], ([] : List Int)))) (hn : L.length ≤ 500) :
    Calls Tryz.prog 26 #[.slice A L.length c, .slice B L.length d] w fun e w' => e = .returned (.bool true) ∧ Below w.heap.size w w' := by
  obtain ⟨L', h1, h2, h3⟩ := hA; exact sameF_any A B L.length c d L' K w h1 hB (by rw [he, h2]) (by omega) h3
end
end Go.Proofs.YtabkpbbjodfolaaGreatDoor
namespace Go.Proofs.YtabkpbbjodfolaaGreatDoor
set_option linter.unusedSimpArgs false
open Go.RowKit
set_option linter.unusedVariables false
theorem one_row (w : World) (t : TypeId) (cs : Array Value) : Blk (w.alloc (.cells cs t)) w.heap.size t cs ∧ Below w.heap.size w (w.alloc (.cells cs t)) := ⟨Blk.new w t cs, (Below.refl _ _).alloc (Nat.le_refl _) _⟩
theorem tb_one {w : World} {g gl : Nat} {k : Int} (h : Blk w g 3 #[.int .i64 k]) (hl : Blk w gl 45 #[.slice (some ⟨g, 0, none⟩) 1 1, .slice none 0 0]) : TbM w (some ⟨gl, 0, none⟩) 1 1 [kr1 g k] :=
  ⟨.of_blk hl (fun _ => rfl) rfl rfl, ⟨Nat.le_refl _, by decide⟩, fun y hy => by rw [List.mem_singleton.1 hy]; exact kr1_m h⟩
theorem tb_two {w : World} {g f gl : Nat} {k j : Int} (h : Blk w g 3 #[.int .i64 k]) (h2 : Blk w f 3 #[.int .i64 j]) (hl : Blk w gl 45 #[.slice (some ⟨g, 0, none⟩) 1 1, .slice none 0 0, .slice (some ⟨f, 0, none⟩) 1 1, .slice none 0 0]) : TbM w (some ⟨gl, 0, none⟩) 2 2 [kr1 g k, kr1 f j] :=
  ⟨.of_blk hl (fun _ => rfl) rfl rfl, ⟨Nat.le_refl _, by decide⟩, fun y hy => by
    simp only [List.mem_cons, List.not_mem_nil, or_false] at hy; rcases hy with rfl | rfl
    · exact kr1_m h
    · exact kr1_m h2⟩
set_option maxHeartbeats 25600000 in
set_option maxRecDepth 100000 in
theorem crescendoKnown_any (w : World) : Calls Tryz.prog 4 #[] w fun e w' => e = .returned (.bool true) ∧ Below w.heap.size w w' := by
  go_enter Tryz.func4, Tryz.ntmps4; go_wp2_with fail; refine (example_any _).mono ?_; rintro e wE ⟨⟨A1, A2, A3, A4, P1, P2, P3, rfl, hm⟩, hb⟩; have HBE : Sl (Below w.heap.size w wE) := ⟨hb⟩; have HM : Sl _ := ⟨hm⟩; have HD : Sl (Lg wE wE []) := ⟨Lg.nil wE⟩; clear hm hb
  go_upto_region 2 with ((with_reducible show wpList _ _ _ _ _ _); first
    | (refine wpList_alloc_new 1 rfl rfl 33 rfl #[.slice none 0 0, .slice none 0 0, .slice none 0 0, .slice none 0 0] alloc_spec ?_; rintro w1 g1 zg zm zs zb; replace HD : Sl _ := ⟨HD.out.new zg zm zb⟩; clear zg zm zs zb)
    | (refine wpList_store_whole rfl 33 (.tmp 1) (.tmp 20) rfl g1 #[.slice A1 1 1, .slice A2 2 2, .slice A3 3 3, .slice A4 1 1] rfl rfl 33 _ (HD.out.at_ 0 rfl) rfl (by kernel_rfl) (by simp [Value.oneCell']) ?_; rintro w2 zm zs zb; replace HD : Sl _ := ⟨HD.out.upd zm zb⟩; clear zm zs zb))
  simp only [Act.put, sS0, sS1, sS2]
  go_cut [3] from 21 to 27 (fun s3 wx => s3 = .int .i64 7 ∧ Sl (Below wE.heap.size wE wx ∧ Blk wx g1 33 #[.slice A1 1 1, .slice A2 2 2, .slice A3 3 3, .slice A4 1 1]))
  case first =>
    have hS0 : Below wE.heap.size wE w2.drew ∧ Blk w2.drew g1 33 #[.slice A1 1 1, .slice A2 2 2, .slice A3 3 3, .slice A4 1 1] := ⟨HD.out.bl.trans ((below_drewN (Below.refl _ _) 1).mono HD.out.bl.size), HD.out.at_ 0 rfl⟩; replace HD : Sl (Lg wE w2.drew [(g1, 33, #[.slice A1 1 1, .slice A2 2 2, .slice A3 3 3, .slice A4 1 1])]) := ⟨HD.out.below (below_drewN (Below.refl _ _) 1)⟩; have hm := hS0; refine wp_region_held_drew (S := fun w' => Below wE.heap.size wE w' ∧ Blk w' g1 33 #[.slice A1 1 1, .slice A2 2 2, .slice A3 3 3, .slice A4 1 1]) (by kernel_rfl) hm (fun hHeld => ?_); clear hm; refine wpAnyH_load 0 33 (.tmp 1) rfl rfl rfl g1 0 rfl #[.slice A1 1 1, .slice A2 2 2, .slice A3 3 3, .slice A4 1 1] _ (fun w' h => by have := World.rangeAt_of_block h.2 0 4; exact this) Tryz.underlying33 rfl (by kernel_rfl) (by kernel_rfl) (by kernel_rfl) (by kernel_rfl) (fun _ _ _ h => h) (by assumption) ?_; simp only [Act.put, sS0, sS1, sS2]; refine wpAnyH_pure 2 (v := .agg #[.slice none 0 0, .slice none 0 0]) rfl (by kernel_rfl) (by kernel_rfl) (by kernel_rfl) (fun _ _ _ h => h) rfl (fun _ => by go_simp) (by assumption) ?_; simp only [Act.put, sS0, sS1, sS2]; refine wpAnyH_twom 1 7 rfl rfl (by kernel_rfl) rfl rfl (fun K hK => ?_) (fun K hK => ?_) 
    · skip; go_simp; go_at_call 18
      (with_reducible refine (table_any _).mono ?_)
      rintro e w10 ⟨⟨T, a, b, c, d, rfl, ht⟩, hb⟩; replace HD : Sl _ := ⟨HD.out.below hb⟩; have HT : Sl _ := ⟨ht⟩; clear hb ht; refine hK.out _ _ ⟨HD.out.bl, HD.out.at_ 0 rfl⟩ (fun hHeld => ?_); clear hK K
      (try simp only [Act.put, sS0, sS1, sS2])
      refine wpAnyH_twom 3 7 rfl rfl (by kernel_rfl) rfl rfl (fun K hK => ?_) (fun K hK => ?_) 
      · skip; go_simp; go_at_call 17
        (with_reducible refine (knAt A1 A2 A3 A4 P1 P2 P3 T a b c d _ (HM.out.below HD.out.bl) HT.out).mono ?_)
        rintro e w11 ⟨⟨A, n, c, B, m, d', rfl⟩, hb⟩; replace HD : Sl _ := ⟨HD.out.below hb⟩; clear hb HT; refine hK.out _ _ ⟨HD.out.bl, HD.out.at_ 0 rfl⟩ (fun hHeld => ?_); clear hK K
        (try simp only [Act.put, sS0, sS1, sS2])
        refine wpAnyH_pure 4 (v := .tuple #[.agg #[.slice A n c, .slice B m d'], .int .i64 7]) rfl (by kernel_rfl) (by kernel_rfl) (by kernel_rfl) (fun _ _ _ h => h) rfl (fun _ => rfl) (by assumption) ?_; simp only [Act.put, sS0, sS1, sS2]; refine wpAnyH_pure 5 (v := .agg #[.slice A n c, .slice B m d']) rfl (by kernel_rfl) (by kernel_rfl) (by kernel_rfl) (fun _ _ _ h => h) rfl (fun _ => by go_simp) (by assumption) ?_; simp only [Act.put, sS0, sS1, sS2]; refine wpAnyH_pure 6 (v := .int .i64 7) rfl (by kernel_rfl) (by kernel_rfl) (by kernel_rfl) (fun _ _ _ h => h) rfl (fun _ => by go_simp) (by assumption) ?_; simp only [Act.put, sS0, sS1, sS2]; refine wpAnyH_one 7 rfl (by kernel_rfl) rfl (fun K hK => ?_); refine wp_newblk (fun g => .pointer (some ⟨g, 0, none⟩)) 45 #[.slice none 0 0, .slice none 0 0] (fun _ => by kernel_rfl) ?_; rintro w12 g2 zg zm zw zb; replace HD : Sl _ := ⟨HD.out.new zg zm zb⟩; clear zg zm zw zb; refine hK.out _ _ ⟨HD.out.bl, HD.out.at_ 1 rfl⟩ (fun hHeld => ?_); clear hK K
        (try simp only [Act.put, sS0, sS1, sS2])
        refine wpAnyH_one 8 rfl (by kernel_rfl) rfl (fun K hK => ?_); refine wp_store_partm 45 (.tmp 2) (.tmp 26) rfl g2 0 #[.slice A n c, .slice B m d'] rfl rfl 45 _ #[.slice A n c, .slice B m d'] (HD.out.at_ 0 rfl) (by simp) (putA_all _ _ rfl) (by kernel_rfl) (by simp [Value.oneCell']) ?_; rintro w13 zm zs zb; replace HD : Sl _ := ⟨HD.out.set 0 rfl zm zb⟩; clear zm zs zb; refine hK.out _ _ ⟨HD.out.bl, HD.out.at_ 1 rfl⟩ (fun hHeld => ?_); clear hK K
        (try simp only [Act.put, sS0, sS1, sS2])
        refine wpAnyH_pure 9 (v := .int .i64 7) rfl (by kernel_rfl) (by kernel_rfl) (by kernel_rfl) (fun _ _ _ h => h) rfl (fun _ => rfl) (by assumption) ?_; simp only [Act.put, sS0, sS1, sS2]; refine wpAnyH_done (by kernel_rfl) ?_ _
        (try go_wp2_with fail)
        go_meet
        exact ⟨rfl, ⟨HD.out.bl, HD.out.at_ 1 rfl⟩⟩
      · skip; refine wp_newblk (fun g => .pointer (some ⟨g, 0, none⟩)) 45 #[.slice none 0 0, .slice none 0 0] (fun _ => by kernel_rfl) ?_; rintro w14 g2 zg zm zw zb; replace HD : Sl _ := ⟨HD.out.new zg zm zb⟩; replace HT : Sl _ := ⟨HT.out.below zw⟩; clear zg zm zw zb; refine hK.out _ _ ⟨HD.out.bl, HD.out.at_ 1 rfl⟩ (fun hHeld => ?_); clear hK K
        (try simp only [Act.put, sS0, sS1, sS2])
        refine wpAnyH_one 3 rfl (by kernel_rfl) rfl (fun K hK => ?_); go_simp; go_at_call 17
        (with_reducible refine (knAt A1 A2 A3 A4 P1 P2 P3 T a b c d _ (HM.out.below HD.out.bl) HT.out).mono ?_)
        rintro e w15 ⟨⟨A, n, c, B, m, d', rfl⟩, hb⟩; replace HD : Sl _ := ⟨HD.out.below hb⟩; clear hb HT; refine hK.out _ _ ⟨HD.out.bl, HD.out.at_ 1 rfl⟩ (fun hHeld => ?_); clear hK K
        (try simp only [Act.put, sS0, sS1, sS2])
        refine wpAnyH_pure 4 (v := .tuple #[.agg #[.slice A n c, .slice B m d'], .int .i64 7]) rfl (by kernel_rfl) (by kernel_rfl) (by kernel_rfl) (fun _ _ _ h => h) rfl (fun _ => rfl) (by assumption) ?_; simp only [Act.put, sS0, sS1, sS2]; refine wpAnyH_pure 5 (v := .agg #[.slice A n c, .slice B m d']) rfl (by kernel_rfl) (by kernel_rfl) (by kernel_rfl) (fun _ _ _ h => h) rfl (fun _ => by go_simp) (by assumption) ?_; simp only [Act.put, sS0, sS1, sS2]; refine wpAnyH_pure 6 (v := .int .i64 7) rfl (by kernel_rfl) (by kernel_rfl) (by kernel_rfl) (fun _ _ _ h => h) rfl (fun _ => by go_simp) (by assumption) ?_; simp only [Act.put, sS0, sS1, sS2]; refine wpAnyH_one 8 rfl (by kernel_rfl) rfl (fun K hK => ?_); refine wp_store_partm 45 (.tmp 2) (.tmp 26) rfl g2 0 #[.slice A n c, .slice B m d'] rfl rfl 45 _ #[.slice A n c, .slice B m d'] (HD.out.at_ 0 rfl) (by simp) (putA_all _ _ rfl) (by kernel_rfl) (by simp [Value.oneCell']) ?_; rintro w16 zm zs zb; replace HD : Sl _ := ⟨HD.out.set 0 rfl zm zb⟩; clear zm zs zb; refine hK.out _ _ ⟨HD.out.bl, HD.out.at_ 1 rfl⟩ (fun hHeld => ?_); clear hK K
        (try simp only [Act.put, sS0, sS1, sS2])
        refine wpAnyH_pure 9 (v := .int .i64 7) rfl (by kernel_rfl) (by kernel_rfl) (by kernel_rfl) (fun _ _ _ h => h) rfl (fun _ => rfl) (by assumption) ?_; simp only [Act.put, sS0, sS1, sS2]; refine wpAnyH_done (by kernel_rfl) ?_ _
        (try go_wp2_with fail)
        go_meet
        exact ⟨rfl, ⟨HD.out.bl, HD.out.at_ 1 rfl⟩⟩
    · skip; refine wp_newblk (fun g => .pointer (some ⟨g, 0, none⟩)) 45 #[.slice none 0 0, .slice none 0 0] (fun _ => by kernel_rfl) ?_; rintro w17 g2 zg zm zw zb; replace HD : Sl _ := ⟨HD.out.new zg zm zb⟩; clear zg zm zw zb; refine hK.out _ _ ⟨HD.out.bl, HD.out.at_ 1 rfl⟩ (fun hHeld => ?_); clear hK K
      (try simp only [Act.put, sS0, sS1, sS2])
      refine wpAnyH_one 1 rfl (by kernel_rfl) rfl (fun K hK => ?_); go_simp; go_at_call 18
      (with_reducible refine (table_any _).mono ?_)
      rintro e w18 ⟨⟨T, a, b, c, d, rfl, ht⟩, hb⟩; replace HD : Sl _ := ⟨HD.out.below hb⟩; have HT : Sl _ := ⟨ht⟩; clear hb ht; refine hK.out _ _ ⟨HD.out.bl, HD.out.at_ 1 rfl⟩ (fun hHeld => ?_); clear hK K
      (try simp only [Act.put, sS0, sS1, sS2])
      refine wpAnyH_one 3 rfl (by kernel_rfl) rfl (fun K hK => ?_); go_simp; go_at_call 17
      (with_reducible refine (knAt A1 A2 A3 A4 P1 P2 P3 T a b c d _ (HM.out.below HD.out.bl) HT.out).mono ?_)
      rintro e w19 ⟨⟨A, n, c, B, m, d', rfl⟩, hb⟩; replace HD : Sl _ := ⟨HD.out.below hb⟩; clear hb HT; refine hK.out _ _ ⟨HD.out.bl, HD.out.at_ 1 rfl⟩ (fun hHeld => ?_); clear hK K
      (try simp only [Act.put, sS0, sS1, sS2])
      refine wpAnyH_pure 4 (v := .tuple #[.agg #[.slice A n c, .slice B m d'], .int .i64 7]) rfl (by kernel_rfl) (by kernel_rfl) (by kernel_rfl) (fun _ _ _ h => h) rfl (fun _ => rfl) (by assumption) ?_; simp only [Act.put, sS0, sS1, sS2]; refine wpAnyH_pure 5 (v := .agg #[.slice A n c, .slice B m d']) rfl (by kernel_rfl) (by kernel_rfl) (by kernel_rfl) (fun _ _ _ h => h) rfl (fun _ => by go_simp) (by assumption) ?_; simp only [Act.put, sS0, sS1, sS2]; refine wpAnyH_pure 6 (v := .int .i64 7) rfl (by kernel_rfl) (by kernel_rfl) (by kernel_rfl) (fun _ _ _ h => h) rfl (fun _ => by go_simp) (by assumption) ?_; simp only [Act.put, sS0, sS1, sS2]; refine wpAnyH_one 8 rfl (by kernel_rfl) rfl (fun K hK => ?_); refine wp_store_partm 45 (.tmp 2) (.tmp 26) rfl g2 0 #[.slice A n c, .slice B m d'] rfl rfl 45 _ #[.slice A n c, .slice B m d'] (HD.out.at_ 0 rfl) (by simp) (putA_all _ _ rfl) (by kernel_rfl) (by simp [Value.oneCell']) ?_; rintro w20 zm zs zb; replace HD : Sl _ := ⟨HD.out.set 0 rfl zm zb⟩; clear zm zs zb; refine hK.out _ _ ⟨HD.out.bl, HD.out.at_ 1 rfl⟩ (fun hHeld => ?_); clear hK K
      (try simp only [Act.put, sS0, sS1, sS2])
      refine wpAnyH_pure 9 (v := .int .i64 7) rfl (by kernel_rfl) (by kernel_rfl) (by kernel_rfl) (fun _ _ _ h => h) rfl (fun _ => rfl) (by assumption) ?_; simp only [Act.put, sS0, sS1, sS2]; refine wpAnyH_done (by kernel_rfl) ?_ _
      (try go_wp2_with fail)
      go_meet
      exact ⟨rfl, ⟨HD.out.bl, HD.out.at_ 1 rfl⟩⟩
  case rest =>
    clear HD; obtain ⟨rfl, HX⟩ := hcut
    rename World => wx
    go_upto_region 3 with fail
    go_cut [4, 5] from 28 to 35 (fun s4 s5 wy => s4 = .int .i64 2 ∧ s5 = .int .i64 0 ∧ Sl (Below wx.heap.size wx wy))
    case first =>
      have HB : Sl (∀ W, Below wx.heap.size wx W → Blk W g1 33 #[.slice A1 1 1, .slice A2 2 2, .slice A3 3 3, .slice A4 1 1]) := ⟨fun W h => HX.out.2.below h HX.out.2.lt⟩; have HM2 : Sl (∀ W, Below wx.heap.size wx W → SpM W (exO A1 A2 A3 A4 P1 P2 P3)) := ⟨fun W h => HM.out.below (HX.out.1.trans (h.mono HX.out.1.size))⟩; have hS0 : Below wx.heap.size wx wx.drew := below_drewN (Below.refl _ _) 1; have HD : Sl (Lg wx wx.drew []) := ⟨(Lg.nil wx).below hS0⟩; have hm := hS0; refine wp_region_held_drew (S := fun w' => Below wx.heap.size wx w') (by kernel_rfl) hm (fun hHeld => ?_); clear hm; refine wpAnyH_load 0 33 (.tmp 1) rfl rfl rfl g1 0 rfl #[.slice A1 1 1, .slice A2 2 2, .slice A3 3 3, .slice A4 1 1] _ (fun w' h => by have := World.rangeAt_of_block (HB.out w' h) 0 4; exact this) Tryz.underlying33 rfl (by kernel_rfl) (by kernel_rfl) (by kernel_rfl) (by kernel_rfl) (fun _ _ _ h => h) (by assumption) ?_; simp only [Act.put, sS0, sS1, sS2]; refine wpAnyH_twom 1 2 rfl rfl (by kernel_rfl) rfl rfl (fun K hK => ?_) (fun K hK => ?_) 
      · skip; go_simp; go_at_call 18
        (with_reducible refine (table_any _).mono ?_)
        rintro e w21 ⟨⟨T, a, b, c, d, rfl, ht⟩, hb⟩; replace HD : Sl _ := ⟨HD.out.below hb⟩; have HT : Sl _ := ⟨ht⟩; clear hb ht; refine hK.out _ _ HD.out.bl (fun hHeld => ?_); clear hK K
        (try simp only [Act.put, sS0, sS1, sS2])
        refine wpAnyH_one 2 rfl (by kernel_rfl) rfl (fun K hK => ?_); refine wp_newblk (fun g => .slice (some ⟨g, 0, none⟩) 1 1) 3 #[.int .i64 2] (fun _ => by kernel_rfl) ?_; rintro w22 ga zg zm zw zb; replace HD : Sl _ := ⟨HD.out.new zg zm zb⟩; replace HT : Sl _ := ⟨HT.out.below zw⟩; clear zg zm zw zb; refine hK.out _ _ HD.out.bl (fun hHeld => ?_); clear hK K
        (try simp only [Act.put, sS0, sS1, sS2])
        refine wpAnyH_pure 3 (v := .agg #[.slice (some ⟨ga, 0, none⟩) 1 1, .slice none 0 0]) rfl (by kernel_rfl) (by kernel_rfl) (by kernel_rfl) (fun _ _ _ h => h) rfl (fun _ => by go_simp) (by assumption) ?_; simp only [Act.put, sS0, sS1, sS2]; refine wpAnyH_one 4 rfl (by kernel_rfl) rfl (fun K hK => ?_); go_simp; go_at_call 19
        (with_reducible refine (knNeed2 A1 A2 A3 A4 P1 P2 P3 T a b c d ga _ (HM2.out _ HD.out.bl) HT.out (HD.out.at_ 0 rfl)).mono ?_)
        rintro e w23 ⟨rfl, hb⟩; replace HD : Sl _ := ⟨HD.out.below hb⟩; clear hb; refine hK.out _ _ HD.out.bl (fun hHeld => ?_); clear hK K
        (try simp only [Act.put, sS0, sS1, sS2])
        clear HT; refine wpAnyH_pure 5 (v := .tuple #[.int .i64 2, .int .i64 0]) rfl (by kernel_rfl) (by kernel_rfl) (by kernel_rfl) (fun _ _ _ h => h) rfl (fun _ => rfl) (by assumption) ?_; simp only [Act.put, sS0, sS1, sS2]; refine wpAnyH_pure 6 (v := .int .i64 2) rfl (by kernel_rfl) (by kernel_rfl) (by kernel_rfl) (fun _ _ _ h => h) rfl (fun _ => by go_simp) (by assumption) ?_; simp only [Act.put, sS0, sS1, sS2]; refine wpAnyH_pure 7 (v := .int .i64 0) rfl (by kernel_rfl) (by kernel_rfl) (by kernel_rfl) (fun _ _ _ h => h) rfl (fun _ => by go_simp) (by assumption) ?_; simp only [Act.put, sS0, sS1, sS2]; refine wpAnyH_pure 8 (v := .int .i64 2) rfl (by kernel_rfl) (by kernel_rfl) (by kernel_rfl) (fun _ _ _ h => h) rfl (fun _ => rfl) (by assumption) ?_; simp only [Act.put, sS0, sS1, sS2]; refine wpAnyH_pure 9 (v := .int .i64 0) rfl (by kernel_rfl) (by kernel_rfl) (by kernel_rfl) (fun _ _ _ h => h) rfl (fun _ => rfl) (by assumption) ?_; simp only [Act.put, sS0, sS1, sS2]; refine wpAnyH_done (by kernel_rfl) ?_ _
        (try go_wp2_with fail)
        go_meet
        exact ⟨rfl, rfl, ⟨HD.out.bl⟩⟩
      · skip; refine wp_newblk (fun g => .slice (some ⟨g, 0, none⟩) 1 1) 3 #[.int .i64 2] (fun _ => by kernel_rfl) ?_; rintro w24 ga zg zm zw zb; replace HD : Sl _ := ⟨HD.out.new zg zm zb⟩; clear zg zm zw zb; refine hK.out _ _ HD.out.bl (fun hHeld => ?_); clear hK K
        (try simp only [Act.put, sS0, sS1, sS2])
        refine wpAnyH_pure 3 (v := .agg #[.slice (some ⟨ga, 0, none⟩) 1 1, .slice none 0 0]) rfl (by kernel_rfl) (by kernel_rfl) (by kernel_rfl) (fun _ _ _ h => h) rfl (fun _ => by go_simp) (by assumption) ?_; simp only [Act.put, sS0, sS1, sS2]; refine wpAnyH_one 1 rfl (by kernel_rfl) rfl (fun K hK => ?_); go_simp; go_at_call 18
        (with_reducible refine (table_any _).mono ?_)
        rintro e w25 ⟨⟨T, a, b, c, d, rfl, ht⟩, hb⟩; replace HD : Sl _ := ⟨HD.out.below hb⟩; have HT : Sl _ := ⟨ht⟩; clear hb ht; refine hK.out _ _ HD.out.bl (fun hHeld => ?_); clear hK K
        (try simp only [Act.put, sS0, sS1, sS2])
        refine wpAnyH_one 4 rfl (by kernel_rfl) rfl (fun K hK => ?_); go_simp; go_at_call 19
        (with_reducible refine (knNeed2 A1 A2 A3 A4 P1 P2 P3 T a b c d ga _ (HM2.out _ HD.out.bl) HT.out (HD.out.at_ 0 rfl)).mono ?_)
        rintro e w26 ⟨rfl, hb⟩; replace HD : Sl _ := ⟨HD.out.below hb⟩; clear hb; refine hK.out _ _ HD.out.bl (fun hHeld => ?_); clear hK K
        (try simp only [Act.put, sS0, sS1, sS2])
        clear HT; refine wpAnyH_pure 5 (v := .tuple #[.int .i64 2, .int .i64 0]) rfl (by kernel_rfl) (by kernel_rfl) (by kernel_rfl) (fun _ _ _ h => h) rfl (fun _ => rfl) (by assumption) ?_; simp only [Act.put, sS0, sS1, sS2]; refine wpAnyH_pure 6 (v := .int .i64 2) rfl (by kernel_rfl) (by kernel_rfl) (by kernel_rfl) (fun _ _ _ h => h) rfl (fun _ => by go_simp) (by assumption) ?_; simp only [Act.put, sS0, sS1, sS2]; refine wpAnyH_pure 7 (v := .int .i64 0) rfl (by kernel_rfl) (by kernel_rfl) (by kernel_rfl) (fun _ _ _ h => h) rfl (fun _ => by go_simp) (by assumption) ?_; simp only [Act.put, sS0, sS1, sS2]; refine wpAnyH_pure 8 (v := .int .i64 2) rfl (by kernel_rfl) (by kernel_rfl) (by kernel_rfl) (fun _ _ _ h => h) rfl (fun _ => rfl) (by assumption) ?_; simp only [Act.put, sS0, sS1, sS2]; refine wpAnyH_pure 9 (v := .int .i64 0) rfl (by kernel_rfl) (by kernel_rfl) (by kernel_rfl) (fun _ _ _ h => h) rfl (fun _ => rfl) (by assumption) ?_; simp only [Act.put, sS0, sS1, sS2]; refine wpAnyH_done (by kernel_rfl) ?_ _
        (try go_wp2_with fail)
        go_meet
        exact ⟨rfl, rfl, ⟨HD.out.bl⟩⟩
    case rest =>
      obtain ⟨rfl, rfl, HY⟩ := hcut
      rename World => wy
      have HX2 : Sl (Below wE.heap.size wE wy ∧ Blk wy g1 33 #[.slice A1 1 1, .slice A2 2 2, .slice A3 3 3, .slice A4 1 1]) := ⟨HX.out.1.trans (HY.out.mono HX.out.1.size), HX.out.2.below HY.out HX.out.2.lt⟩; clear HX HY; have HB : Sl (∀ W, Below wy.heap.size wy W → Blk W g1 33 #[.slice A1 1 1, .slice A2 2 2, .slice A3 3 3, .slice A4 1 1]) := ⟨fun W h => HX2.out.2.below h HX2.out.2.lt⟩; have HM2 : Sl (∀ W, Below wy.heap.size wy W → SpM W (exO A1 A2 A3 A4 P1 P2 P3)) := ⟨fun W h => HM.out.below (HX2.out.1.trans (h.mono HX2.out.1.size))⟩
      go_upto_region 4 with fail
      have hS0 : Below wy.heap.size wy wy.drew := below_drewN (Below.refl _ _) 1; have HD : Sl (Lg wy wy.drew []) := ⟨(Lg.nil wy).below hS0⟩; have hm := hS0; refine wp_region_held_drew (S := fun w' => Below wy.heap.size wy w') (by kernel_rfl) hm (fun hHeld => ?_); clear hm; refine wpAnyH_load 0 33 (.tmp 1) rfl rfl rfl g1 0 rfl #[.slice A1 1 1, .slice A2 2 2, .slice A3 3 3, .slice A4 1 1] _ (fun w' h => by have := World.rangeAt_of_block (HB.out w' h) 0 4; exact this) Tryz.underlying33 rfl (by kernel_rfl) (by kernel_rfl) (by kernel_rfl) (by kernel_rfl) (fun _ _ _ h => h) (by assumption) ?_; simp only [Act.put, sS0, sS1, sS2]; refine wpAnyH_pure 2 (v := .agg #[.slice none 0 0, .slice none 0 0]) rfl (by kernel_rfl) (by kernel_rfl) (by kernel_rfl) (fun _ _ _ h => h) rfl (fun _ => by go_simp) (by assumption) ?_; simp only [Act.put, sS0, sS1, sS2]; refine wpAnyH_one 1 rfl (by kernel_rfl) rfl (fun K hK => ?_); go_simp; go_at_call 18
      (with_reducible refine (table_any _).mono ?_)
      rintro e w27 ⟨⟨T, a, b, c, d, rfl, ht⟩, hb⟩; replace HD : Sl _ := ⟨HD.out.below hb⟩; have HT : Sl _ := ⟨ht⟩; clear hb ht; refine hK.out _ _ HD.out.bl (fun hHeld => ?_); clear hK K
      (try simp only [Act.put, sS0, sS1, sS2])
      refine wpAnyH_one 3 rfl (by kernel_rfl) rfl (fun K hK => ?_); go_simp; go_at_call 19
      (with_reducible refine (knNeed0 A1 A2 A3 A4 P1 P2 P3 T a b c d _ (HM2.out _ HD.out.bl) HT.out).mono ?_)
      rintro e wz ⟨rfl, hb⟩; replace HD : Sl _ := ⟨HD.out.below hb⟩; clear hb; refine hK.out _ _ HD.out.bl (fun hHeld => ?_); clear hK K
      (try simp only [Act.put, sS0, sS1, sS2])
      clear HT; refine wpAnyH_pure 4 (v := .tuple #[.int .i64 0, .int .i64 0]) rfl (by kernel_rfl) (by kernel_rfl) (by kernel_rfl) (fun _ _ _ h => h) rfl (fun _ => rfl) (by assumption) ?_; simp only [Act.put, sS0, sS1, sS2]; refine wpAnyH_pure 5 (v := .int .i64 0) rfl (by kernel_rfl) (by kernel_rfl) (by kernel_rfl) (fun _ _ _ h => h) rfl (fun _ => by go_simp) (by assumption) ?_; simp only [Act.put, sS0, sS1, sS2]; refine wpAnyH_pure 6 (v := .int .i64 0) rfl (by kernel_rfl) (by kernel_rfl) (by kernel_rfl) (fun _ _ _ h => h) rfl (fun _ => by go_simp) (by assumption) ?_; simp only [Act.put, sS0, sS1, sS2]; refine wpAnyH_pure 7 (v := .int .i64 0) rfl (by kernel_rfl) (by kernel_rfl) (by kernel_rfl) (fun _ _ _ h => h) rfl (fun _ => rfl) (by assumption) ?_; simp only [Act.put, sS0, sS1, sS2]; refine wpAnyH_pure 8 (v := .int .i64 0) rfl (by kernel_rfl) (by kernel_rfl) (by kernel_rfl) (fun _ _ _ h => h) rfl (fun _ => rfl) (by assumption) ?_; simp only [Act.put, sS0, sS1, sS2]; refine wpAnyH_done (by kernel_rfl) ?_ _; have HZ : Sl (Below wy.heap.size wy wz) := ⟨HD.out.bl⟩; clear hHeld hS0 HD; have HD : Sl (Lg wz wz []) := ⟨Lg.nil wz⟩
      go_wp2_with ((with_reducible show wpList _ _ _ _ _ _); first
        | (refine wpList_made 44 rfl rfl 2 1 #[.int .i64 7] (fun _ => by kernel_rfl) ?_; rintro w50 g44 zg zm zs zb; replace HD : Sl _ := ⟨HD.out.new zg zm zb⟩; clear zg zm zs zb))
      refine (knPlan g44 _ (HD.out.at_ 0 rfl)).mono ?_; rintro e wp ⟨⟨AP, cP, L, rfl, hg, hl⟩, hb⟩; have HO : Sl (Below wy.heap.size wy wp) := ⟨HZ.out.trans ((HD.out.bl.trans (hb.mono HD.out.bl.size)).mono HZ.out.size)⟩; have HG : Sl _ := ⟨hg⟩; have HGL : Sl _ := ⟨hl⟩; have HWP : Sl (Below w.heap.size w wp) := ⟨HBE.out.trans ((HX2.out.1.trans (HO.out.mono HX2.out.1.size)).mono HBE.out.size)⟩; clear HD hb hg hl HZ; have HNC : Sl (Calls Tryz.prog 9 #[.agg #[.slice A1 1 1, .slice A2 2 2, .slice A3 3 3, .slice A4 1 1]] wp fun en w' => (∃ q A3' c3 A4' c4, en = .returned (.tuple #[ptr q, .int .i64 0]) ∧ wp.heap.size ≤ q ∧ w'.heap.size = q + 1 ∧ SpF (newO (exO A1 A2 A3 A4 P1 P2 P3) A3' c3 A4' c4) ∧ SQ w' wp.heap.size (newO (exO A1 A2 A3 A4 P1 P2 P3) A3' c3 A4' c4) (newM q) newV) ∧ Below wp.heap.size wp w') := ⟨qNew_any (exO A1 A2 A3 A4 P1 P2 P3) wp (HM2.out _ HO.out) (exO_F A1 A2 A3 A4 P1 P2 P3) (exO_ok A1 A2 A3 A4 P1 P2 P3)⟩
      go_wp2_with ((with_reducible show wpList _ _ _ _ _ _); first
        | (refine wpList_load_whole rfl 33 (.tmp 1) rfl g1 rfl 33 _ _ (HB.out _ HO.out) Tryz.underlying33 rfl (by kernel_rfl) ?_))
      refine HNC.out.mono ?_; rintro e wq ⟨⟨q, A3', c3, A4', c4, rfl, hq1, hq2, hfq, hq⟩, hb⟩; have HSP : Sl (Spc (newO (exO A1 A2 A3 A4 P1 P2 P3) A3' c3 A4' c4) (exO A1 A2 A3 A4 P1 P2 P3)) := ⟨⟨hfq, exO_F A1 A2 A3 A4 P1 P2 P3, exO_ok A1 A2 A3 A4 P1 P2 P3, rfl, rfl⟩⟩; have HN3 : Sl ((newO (exO A1 A2 A3 A4 P1 P2 P3) A3' c3 A4' c4).n3 = 3) := ⟨rfl⟩; have HK : Sl (KVl w wq (newO (exO A1 A2 A3 A4 P1 P2 P3) A3' c3 A4' c4) (newM q) [] 0) := ⟨newV, ⟨hq.low HWP.out.size, ⟨_, Sim.emp RgV⟩, Bnd.emp smR, HWP.out.trans (hb.mono HWP.out.size)⟩, rfl, rfl⟩; replace HG : Sl _ := ⟨HG.out.below hb⟩; clear hq1 hq2 hfq hq hb HNC HWP HO HM2 HB HX2 HM HBE; obtain ⟨oq, hoq⟩ : ∃ oq, newO (exO A1 A2 A3 A4 P1 P2 P3) A3' c3 A4' c4 = oq := ⟨_, rfl⟩; obtain ⟨m, hm⟩ : ∃ m, newM q = m := ⟨_, rfl⟩; have HQ : Sl (m.q = q) := ⟨by rw [← hm]; rfl⟩; obtain ⟨oo, hoo⟩ : ∃ oo, exO A1 A2 A3 A4 P1 P2 P3 = oo := ⟨_, rfl⟩; rw [hoq] at HSP HK HN3; rw [hm] at HK; rw [hoo] at HSP; clear hoq hm hoo
      have HLE : Sl (∀ s ∈ L, s.n ≤ 1000000) := ⟨fun s hs => by
        have h1 := (HG.out.all s hs).1; have h2 : s.l ∈ L.map SlV.l := List.mem_map.2 ⟨s, hs, rfl⟩; rw [HGL.out] at h2; simp only [List.mem_cons, List.not_mem_nil, or_false] at h2
        rcases h2 with h2 | h2 | h2 <;> (rw [h2] at h1; simp at h1; omega)⟩
      have H3 : Sl _ := ⟨two_rows wq 3 43 #[.int .i64 0] #[.slice none 0 0, .slice none 0 0, .slice (some ⟨wq.heap.size, 0, none⟩) 1 1]⟩; go_wp2_with fail; refine (groups_any AP (some ⟨wq.heap.size + 1, 0, none⟩) 3 cP 3 L [⟨none, 0, 0, []⟩, ⟨none, 0, 0, []⟩, ⟨some ⟨wq.heap.size, 0, none⟩, 1, 1, [0]⟩] _ (HG.out.below H3.out.2.2) (.of_blk H3.out.2.1 rfl rfl (fun s hs => ?_)) (by decide) HGL.out HLE.out).mono ?_
      · simp only [List.mem_cons, List.not_mem_nil, or_false] at hs; rcases hs with rfl | rfl | rfl
        · exact II.nil _ _
        · exact II.nil _ _
        · exact .of_blk H3.out.1 rfl rfl
      rintro e wt ⟨rfl, hb⟩; replace HK : Sl _ := ⟨HK.out.below (H3.out.2.2.trans (hb.mono H3.out.2.2.size))⟩; clear hb HG HGL HLE H3; have H1 : Sl _ := ⟨one_row wt 3 #[.int .i64 0]⟩; have HC : Sl _ := ⟨kIns (HK.out.below H1.out.2) (by decide) HSP.out HN3.out wt.heap.size 0 (by decide) H1.out.1⟩; rw [HQ.out] at HC; go_wp2_with fail; refine HC.out.mono ?_; rintro en wa ⟨rfl, ma, hF, hK⟩; replace HK : Sl (KVl w wa oq ma [0] 0) := ⟨hK⟩; replace HQ : Sl (ma.q = q) := ⟨hF.q.trans HQ.out⟩; clear hF hK HC H1; have H1 : Sl _ := ⟨one_row wa 3 #[.int .i64 1]⟩; have HC : Sl _ := ⟨kIns (HK.out.below H1.out.2) (by decide) HSP.out HN3.out wa.heap.size 1 (by decide) H1.out.1⟩; rw [HQ.out] at HC; go_wp2_with fail; refine HC.out.mono ?_; rintro en wb ⟨rfl, mb, hF, hK⟩; replace HK : Sl (KVl w wb oq mb [1, 0] 0) := ⟨hK⟩; replace HQ : Sl (mb.q = q) := ⟨hF.q.trans HQ.out⟩; clear hF hK HC H1; have HOW : Sl (∀ i, mb.own i → i < wb.heap.size) := ⟨fun i e => HK.out.lt e⟩; have HC : Sl _ := ⟨kNxt HK.out (show ([1, 0] : List Int)[0]? = some 1 from rfl)⟩; rw [HQ.out] at HC; go_wp2_with fail; refine HC.out.mono ?_; rintro en wc ⟨⟨A1', n1, c1', B1', j1, d1', rfl, hd⟩, hK, hF⟩; have HD1 : Sl (Dep wc (fun i => wb.heap.size ≤ i) fun W => RgM W ⟨A1', n1, c1', [1], B1', j1, d1', []⟩) := ⟨hd⟩; replace HK : Sl (KVl w wc oq mb [1, 0] 1) := ⟨hK⟩; have HSZ : Sl (wb.heap.size ≤ wc.heap.size) := ⟨hF.mv.size⟩; clear hF hK HC hd; have HD : Sl (Lg wc wc []) := ⟨Lg.nil wc⟩
      go_upto_region 12 with ((with_reducible show wpList _ _ _ _ _ _); first
        | (refine wpList_alloc_new 13 rfl rfl 45 rfl #[.slice none 0 0, .slice none 0 0] alloc_reg ?_; rintro wca g13 zg zm zs zb; replace HD : Sl _ := ⟨HD.out.new zg zm zb⟩; clear zg zm zs zb)
        | (refine wpList_store_whole rfl 45 (.tmp 13) (.tmp 106) rfl g13 #[.slice A1' n1 c1', .slice B1' j1 d1'] rfl rfl 45 _ (HD.out.at_ 0 rfl) rfl (by kernel_rfl) (by simp [Value.oneCell']) ?_; rintro wcb zm zs zb; replace HD : Sl _ := ⟨HD.out.upd zm zb⟩; clear zm zs zb))
      have HG13 : Sl (Blk wcb g13 45 #[.slice A1' n1 c1', .slice B1' j1 d1']) := ⟨HD.out.at_ 0 rfl⟩; have HNO : Sl (¬ mb.own g13) := ⟨fun e => by have h1 := HK.out.lt e; have h2 : wc.heap.size ≤ g13 := HD.out.ld.ge (g13, _, _) List.mem_cons_self; omega⟩; replace HD1 : Sl _ := ⟨HD1.out.go (MvP.of_below HD.out.bl) (fun _ _ e => e)⟩; have HS : Sl (wb.heap.size ≤ wb.heap.size ∧ wb.heap.size ≤ wc.heap.size) := ⟨Nat.le_refl _, HSZ.out⟩; replace HK : Sl _ := ⟨HK.out.below HD.out.bl⟩; clear HD; have HC : Sl _ := ⟨kNxt HK.out (show ([1, 0] : List Int)[1]? = some 0 from rfl)⟩; rw [HQ.out] at HC; go_wp2_with fail; refine HC.out.mono ?_; rintro en we ⟨⟨A0', n0, c0', B0', j0, d0', rfl, hd⟩, hK, hF⟩; have HD0 : Sl (Dep we (fun i => wcb.heap.size ≤ i) fun W => RgM W ⟨A0', n0, c0', [0], B0', j0, d0', []⟩) := ⟨hd⟩; replace HD1 : Sl _ := ⟨HD1.out.go hF.mv (fun i hi e => by have h1 := HOW.out i e; omega)⟩; replace HG13 : Sl _ := ⟨hF.off HG13.out HNO.out⟩; replace HK : Sl (KVl w we oq mb [1, 0] 2) := ⟨hK⟩; clear hF hK HC hd; have HD : Sl (Lg we we []) := ⟨Lg.nil we⟩
      go_upto_region 13 with ((with_reducible show wpList _ _ _ _ _ _); first
        | (refine wpList_alloc_new 15 rfl rfl 45 rfl #[.slice none 0 0, .slice none 0 0] alloc_reg ?_; rintro wea g15 zg zm zs zb; replace HD : Sl _ := ⟨HD.out.new zg zm zb⟩; clear zg zm zs zb)
        | (refine wpList_store_whole rfl 45 (.tmp 15) (.tmp 111) rfl g15 #[.slice A0' n0 c0', .slice B0' j0 d0'] rfl rfl 45 _ (HD.out.at_ 0 rfl) rfl (by kernel_rfl) (by simp [Value.oneCell']) ?_; rintro web zm zs zb; replace HD : Sl _ := ⟨HD.out.upd zm zb⟩; clear zm zs zb))
      have HG15 : Sl (Blk web g15 45 #[.slice A0' n0 c0', .slice B0' j0 d0']) := ⟨HD.out.at_ 0 rfl⟩; replace HG13 : Sl _ := ⟨HG13.out.below HD.out.bl HG13.out.lt⟩; replace HD1 : Sl (RgM web ⟨A1', n1, c1', [1], B1', j1, d1', []⟩) := ⟨HD1.out.now.below HD.out.bl⟩; replace HD0 : Sl (RgM web ⟨A0', n0, c0', [0], B0', j0, d0', []⟩) := ⟨HD0.out.now.below HD.out.bl⟩; replace HK : Sl _ := ⟨HK.out.below HD.out.bl⟩; clear HD HS HSZ HNO; have hn1 : n1 = 1 := HD1.out.s.1.symm; have hj1 : j1 = 0 := HD1.out.c.1.symm; have hn0 : n0 = 1 := HD0.out.s.1.symm; have hj0 : j0 = 0 := HD0.out.c.1.symm; subst hn1 hj1 hn0 hj0; have x0 : web.cell? ⟨g13, 0, none⟩ = some (.slice A1' 1 c1') := HG13.out.cell 0; have x1 : web.cell? ⟨g13, 1, none⟩ = some (.slice B1' 0 d1') := HG13.out.cell 1; have H1 : Sl _ := ⟨one_row web 3 #[.int .i64 1]⟩; go_wp2_with fail; refine (sameR_any ⟨A1', 1, c1', [1], B1', 0, d1', []⟩ (kr1 web.heap.size 1) _ (HD1.out.below H1.out.2) (kr1_m H1.out.1) rfl rfl (by show 1 ≤ 1000000; decide) (by show 0 ≤ 1000000; decide)).mono ?_; rintro e wf ⟨rfl, hb⟩; have HW : Sl (Below web.heap.size web wf) := ⟨H1.out.2.trans (hb.mono H1.out.2.size)⟩; clear hb H1 x0 x1 HG13 HD1; replace HG15 : Sl _ := ⟨HG15.out.below HW.out HG15.out.lt⟩; replace HD0 : Sl _ := ⟨HD0.out.below HW.out⟩; replace HK : Sl _ := ⟨HK.out.below HW.out⟩; clear HW; have x0 : wf.cell? ⟨g15, 0, none⟩ = some (.slice A0' 1 c0') := HG15.out.cell 0; have x1 : wf.cell? ⟨g15, 1, none⟩ = some (.slice B0' 0 d0') := HG15.out.cell 1; have H1 : Sl _ := ⟨one_row wf 3 #[.int .i64 0]⟩; go_wp2_with fail; refine (sameR_any ⟨A0', 1, c0', [0], B0', 0, d0', []⟩ (kr1 wf.heap.size 0) _ (HD0.out.below H1.out.2) (kr1_m H1.out.1) rfl rfl (by show 1 ≤ 1000000; decide) (by show 0 ≤ 1000000; decide)).mono ?_; rintro e wg ⟨rfl, hb⟩; have HW : Sl (Below wf.heap.size wf wg) := ⟨H1.out.2.trans (hb.mono H1.out.2.size)⟩; clear hb H1 x0 x1 HG15 HD0; replace HK : Sl (KVl w wg oq mb [1, 0] 2) := ⟨HK.out.below HW.out⟩; clear HW; have HC : Sl _ := ⟨kDel HK.out HSP.out⟩; rw [HQ.out] at HC; go_wp2_with fail; refine HC.out.mono ?_; rintro en wh ⟨rfl, mc, hF, hK⟩; clear HK; have HK : Sl (KDl w wh oq mc [0] 1 [1, 0] 2) := ⟨hK⟩; replace HQ : Sl (mc.q = q) := ⟨hF.q.trans HQ.out⟩; clear hF hK HC; have HC : Sl _ := ⟨kFrm HK.out.kv⟩; rw [HQ.out] at HC; go_wp2_with fail; refine HC.out.mono ?_; rintro en wi ⟨⟨AF, cF, rfl, hf⟩, hb⟩; replace HK : Sl _ := ⟨HK.out.below hb⟩; have HF : Sl (KFl wi AF cF [0]) := ⟨hf⟩; clear hf hb HC; have H2 : Sl _ := ⟨two_rows wi 3 45 #[.int .i64 0] #[.slice (some ⟨wi.heap.size, 0, none⟩) 1 1, .slice none 0 0]⟩; have HC : Sl _ := ⟨kSam (HF.out.below H2.out.2.2) (tb_one H2.out.1 H2.out.2.1) rfl (by decide)⟩; go_wp2_with fail; refine HC.out.mono ?_; rintro en wj ⟨rfl, hb⟩; replace HK : Sl _ := ⟨HK.out.below (H2.out.2.2.trans (hb.mono H2.out.2.2.size))⟩; clear hb HC H2 HF; have HC : Sl _ := ⟨kUnd HK.out⟩; rw [HQ.out] at HC; go_wp2_with fail; refine HC.out.mono ?_; rintro en wk ⟨rfl, md, hF, hK⟩; clear HK
      have HK : Sl (KVl w wk oq md [1, 0] 2) := ⟨hK⟩; replace HQ : Sl (md.q = q) := ⟨hF.q.trans HQ.out⟩; clear hF hK HC; have HC : Sl _ := ⟨kFrm HK.out⟩; rw [HQ.out] at HC; go_wp2_with fail; refine HC.out.mono ?_; rintro en wl ⟨⟨AF, cF, rfl, hf⟩, hb⟩; replace HK : Sl _ := ⟨HK.out.below hb⟩; have HF : Sl (KFl wl AF cF [1, 0]) := ⟨hf⟩; clear hf hb HC; have H2 : Sl _ := ⟨three_rows wl 3 3 45 #[.int .i64 1] #[.int .i64 0] #[.slice (some ⟨wl.heap.size, 0, none⟩) 1 1, .slice none 0 0, .slice (some ⟨wl.heap.size + 1, 0, none⟩) 1 1, .slice none 0 0]⟩; have HC : Sl _ := ⟨kSam (HF.out.below H2.out.2.2.2) (tb_two H2.out.1 H2.out.2.1 H2.out.2.2.1) rfl (by decide)⟩; go_wp2_with fail; refine HC.out.mono ?_; rintro en wn ⟨rfl, hb⟩; replace HK : Sl _ := ⟨HK.out.below (H2.out.2.2.2.trans (hb.mono H2.out.2.2.2.size))⟩; have HBF : Sl (Below w.heap.size w wn) := ⟨HK.out.bl⟩; clear hb HC H2 HF HK; go_wp2_with fail; refine (shownS_any _).mono ?_; rintro e w9 ⟨rfl, hb⟩; have HB9 : Sl _ := ⟨HBF.out.trans (hb.mono HBF.out.size)⟩; clear hb; go_wp2_with fail; go_ret; exact ⟨rfl, HB9.out⟩
end Go.Proofs.YtabkpbbjodfolaaGreatDoor
