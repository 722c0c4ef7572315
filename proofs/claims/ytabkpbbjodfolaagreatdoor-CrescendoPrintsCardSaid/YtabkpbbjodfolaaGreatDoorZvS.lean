/- strings.Builder as a value; rows and ledgers beside it. (Printed by gencyb.py.) -/
import Derived.Test.YtabkpbbjodfolaaGreatDoorZvR
import Derived.Test.YtabkpbbjodfolaaGreatDoorShelB
import Derived.Shelf.Strings.BuilderK
import Derived.Test.YtabkpbbjodfolaaGreatDoorZvA
import Derived.Test.YtabkpbbjodfolaaGreatDoorZvQ
namespace Go.Proofs.YtabkpbbjodfolaaGreatDoor
set_option linter.unusedSimpArgs false
open Go.RowKit
set_option linter.unusedVariables false
theorem lays166 : Go.Proofs.Lays.n166 Tryz.prog Tryz.lays156_ren := {
  mixed := Tryz.lays156.mixed
  f166 := Tryz.lays156.f166
  f240 := Tryz.lays156.f240
  f276 := Tryz.lays156.f276
  t0 := Tryz.lays156.t0
  a0 := Tryz.lays156.a0
  z0 := Tryz.lays156.z0
  v0 := Tryz.lays156.v0
  t3 := Tryz.lays156.t3
  a3 := Tryz.lays156.a3
  z3 := Tryz.lays156.z3
  v3 := Tryz.lays156.v3
  t4 := Tryz.lays156.t4
  a4 := Tryz.lays156.a4
  z4 := Tryz.lays156.z4
  v4 := Tryz.lays156.v4
  t9 := Tryz.lays156.t9
  a9 := Tryz.lays156.a9
  z9 := Tryz.lays156.z9
  v9 := Tryz.lays156.v9
  t20 := Tryz.lays156.t20
  a20 := Tryz.lays156.a20
  z20 := Tryz.lays156.z20
  v20 := Tryz.lays156.v20
  t37 := Tryz.lays156.t37
  a37 := Tryz.lays156.a37
  z37 := Tryz.lays156.z37
  v37 := Tryz.lays156.v37
  t70 := Tryz.lays156.t70
  a70 := Tryz.lays156.a70
  z70 := Tryz.lays156.z70
  v70 := Tryz.lays156.v70
  t72 := Tryz.lays156.t72
  a72 := Tryz.lays156.a72
  z72 := Tryz.lays156.z72
  v72 := Tryz.lays156.v72
  t75 := Tryz.lays156.t75
  a75 := Tryz.lays156.a75
  z75 := Tryz.lays156.z75
  v75 := Tryz.lays156.v75
  t164 := Tryz.lays156.t164
  a164 := Tryz.lays156.a164
  z164 := Tryz.lays156.z164
  v164 := Tryz.lays156.v164 }
theorem lays169 : Go.Proofs.Lays.n169 Tryz.prog Tryz.lays156_ren := {
  mixed := Tryz.lays156.mixed
  f169 := Tryz.lays156.f169
  t0 := Tryz.lays156.t0
  a0 := Tryz.lays156.a0
  z0 := Tryz.lays156.z0
  v0 := Tryz.lays156.v0
  t3 := Tryz.lays156.t3
  a3 := Tryz.lays156.a3
  z3 := Tryz.lays156.z3
  v3 := Tryz.lays156.v3
  t9 := Tryz.lays156.t9
  a9 := Tryz.lays156.a9
  z9 := Tryz.lays156.z9
  v9 := Tryz.lays156.v9
  t37 := Tryz.lays156.t37
  a37 := Tryz.lays156.a37
  z37 := Tryz.lays156.z37
  v37 := Tryz.lays156.v37
  t70 := Tryz.lays156.t70
  a70 := Tryz.lays156.a70
  z70 := Tryz.lays156.z70
  v70 := Tryz.lays156.v70
  t72 := Tryz.lays156.t72
  a72 := Tryz.lays156.a72
  z72 := Tryz.lays156.z72
  v72 := Tryz.lays156.v72
  t127 := Tryz.lays156.t127
  a127 := Tryz.lays156.a127
  z127 := Tryz.lays156.z127
  v127 := Tryz.lays156.v127 }
def BD (w : World) (b : Nat) (s : ByteArray) : Prop := Lib.IsBuilderF 136 5 b b (Lib.byteCells s.data.toList) w
theorem BD.at_ {w : World} {b : Nat} {s : ByteArray} (h : BD w b s) : ∃ p v, (p = .pointer none ∨ p = .pointer (some ⟨b, 0, none⟩)) ∧ Blk w b 136 #[p, v] ∧ w.ownsRowF b 5 1 v (Lib.byteCells s.data.toList).length (Lib.byteCells s.data.toList) ∧ v.ownBlock ≠ some b := by
  rcases h with ⟨_, v, h1, h2, h3⟩ | ⟨_, v, h1, h2, h3⟩
  · exact ⟨_, v, .inl rfl, h1, h2, h3⟩
  · exact ⟨_, v, .inr rfl, h1, h2, h3⟩
theorem BD.keep {w w' : World} {b : Nat} {s : ByteArray} (h : BD w b s) (hk : ∀ k c t fz, w.heap[k]? = some (.cells c t fz) → (k = b ∨ t = 5) → w'.heap[k]? = w.heap[k]?) : BD w' b s := by
  have key : ∀ p, Lib.BuilderAtF 136 5 b b p (Lib.byteCells s.data.toList) w → Lib.BuilderAtF 136 5 b b p (Lib.byteCells s.data.toList) w' := by
    rintro p ⟨h0, v, h1, h2, h3⟩; refine ⟨h0, v, (hk b _ _ _ h1 (.inl rfl)).trans h1, ⟨h2.1, ?_⟩, h3⟩; rcases h2.2 with e | ⟨g, cap, cur, fz, e1, hb, hh, hr⟩
    · exact .inl e
    · exact .inr ⟨g, cap, cur, fz, e1, hb, (hk g _ _ _ hh (.inr rfl)).trans hh, hr⟩
  exact h.imp (key _) (key _)
theorem BD.below {w w' : World} {b : Nat} {s : ByteArray} (h : BD w b s) (hb : Below w.heap.size w w') : BD w' b s :=
  h.keep fun k c t fz hc _ => hb.block k ((Array.getElem?_eq_some_iff.1 hc).1)
theorem BD.mv {w w' : World} {b g : Nat} {s : ByteArray} {t : TypeId} {cs : Array Value} (h : BD w b s) (hm : Mv g w w') (hB : Blk w g t cs) (ht : t ≠ 5) (hne : t ≠ 136) : BD w' b s :=
  h.keep fun k c u fz hc hu => hm.block k ((Array.getElem?_eq_some_iff.1 hc).1) (fun e => by
    subst e; rw [hB] at hc; injection hc with hc
    injection hc with _ e2 _
    rcases hu with rfl | rfl
    · obtain ⟨p, v, _, h1, _⟩ := h.at_; have h1 := Option.some.inj (hB.symm.trans h1); injection h1 with _ e3 _
      exact hne e3
    · exact ht e2)
theorem OS.blk {w : World} {base : Nat} {A : Option Addr} {n c : Nat} {l : List ByteArray} (h : OS w base A n c l) {k : Nat} (hk : (Value.slice A n c).ownBlock = some k) : ∃ cs, Blk w k 9 cs := by
  rcases h.2 with ⟨h0, _⟩ | ⟨b, cap, cur, e1, _, hh, _⟩
  · rw [h0] at hk; cases hk
  · rw [e1] at hk; injection hk with hk
    subst hk; exact ⟨cur, hh⟩
theorem BD.grown {w w' : World} {b base : Nat} {s : ByteArray} {A : Option Addr} {n c : Nat} {l : List ByteArray} (h : BD w b s) (ho : OS w base A n c l) (hg : w.grownBy w' (Value.slice A n c).ownBlock) : BD w' b s :=
  h.keep fun k cc u fz hc hu => hg.block k ((Array.getElem?_eq_some_iff.1 hc).1) (fun e => by
    obtain ⟨cs, hB⟩ := ho.blk e.symm; rw [hB] at hc; injection hc with hc
    injection hc with _ e2 _
    rcases hu with rfl | rfl
    · obtain ⟨p, v, _, h1, _⟩ := h.at_; have h1 := Option.some.inj (hB.symm.trans h1); injection h1 with _ e3 _
      exact absurd e3 (by decide)
    · exact absurd e2 (by decide))
theorem BD.new {w : World} {b : Nat} (h : Blk w b 136 #[.pointer none, .slice none 0 0]) : BD w b ⟨#[]⟩ :=
  .inl ⟨Nat.le_refl _, _, h, World.ownsRowF_nil _ _ _ _, by intro e; cases e⟩
theorem BD.lt {w : World} {b : Nat} {s : ByteArray} (h : BD w b s) : b < w.heap.size := by
  obtain ⟨p, v, _, h1, _⟩ := h.at_; exact Blk.lt h1
theorem blk_kept {w w' : World} {b g : Nat} {s : ByteArray} {t : TypeId} {cs : Array Value} (hB : Blk w g t cs) (h : BD w b s) (hk : Lib.OthersKept 5 (some b) w w') (ht : t ≠ 5) (hne : t ≠ 136) : Blk w' g t cs := by
  refine hk g _ hB (fun e => ?_) (fun c fz e => ?_)
  · injection e with e
    subst e; obtain ⟨p, v, _, h1, _⟩ := h.at_; have h1 := Option.some.inj (hB.symm.trans h1); injection h1 with _ e3 _
    exact hne e3
  · injection e with _ e2 _
    exact ht e2
theorem Lg.kept {w0 w w' : World} {b : Nat} {s : ByteArray} {l : List (Nat × TypeId × Array Value)} (h : Lg w0 w l) (hb : BD w b s) (hk : Lib.OthersKept 5 (some b) w w') (hbl : Below b w w') (hwb : w0.heap.size ≤ b) (ht : ∀ p ∈ l, p.2.1 ≠ 5 ∧ p.2.1 ≠ 136) : Lg w0 w' l :=
  ⟨⟨h.bl.trans (hbl.mono hwb), fun p hp => blk_kept (h.ld.all p hp) hb hk (ht p hp).1 (ht p hp).2, h.ld.ge⟩, h.nd⟩
theorem OS.kept {w w' : World} {b base : Nat} {s : ByteArray} {A : Option Addr} {n c : Nat} {l : List ByteArray} (h : OS w base A n c l) (hb : BD w b s) (hk : Lib.OthersKept 5 (some b) w w') : OS w' base A n c l := by
  refine ⟨h.1, ?_⟩; rcases h.2 with h0 | ⟨g, cap, cur, e1, h2, hh, hr⟩
  · exact .inl h0
  · exact .inr ⟨g, cap, cur, e1, h2, blk_kept hh hb hk (by decide) (by decide), hr⟩
theorem wstr_any (b : Nat) (s t : ByteArray) (w : World) (h : BD w b s) (hl : s.size + t.size ≤ 140737488355328) :
    Calls Tryz.prog 84 #[.pointer (some ⟨b, 0, none⟩), .string t] w fun e w' => (∃ v : Int, e = .returned (.tuple #[.int .i64 v, .nilIface])) ∧ BD w' b (s ++ t) ∧ Below b w w' ∧ Lib.OthersKept 5 (some b) w w' := by
  have hlen : (Lib.byteCells s.data.toList).length = s.size := (by rw [Lib.byteCells_length]; rfl); refine (Any.Builder_WriteString_k lays166 Tryz.Builder_Extra_156 b b _ t w h (by omega) (Nat.le_of_lt h.lt)).mono ?_; rintro e w' ⟨h1, h2, h3, h4⟩; refine ⟨⟨_, h1⟩, .inr ?_, h3, h4⟩
  have e : Lib.byteCells (s ++ t).data.toList = Lib.byteCells s.data.toList ++ Lib.strCells t := by
    unfold Lib.byteCells Lib.strCells; rw [ByteArray.data_append, Array.toList_append, List.map_append]
  rw [e]; exact h2
theorem bstr_any (b : Nat) (s : ByteArray) (w : World) (h : BD w b s) :
    Calls Tryz.prog 86 #[.pointer (some ⟨b, 0, none⟩)] w fun e w' => e = .returned (.string s) ∧ Below b w w' := by
  refine (Any.Builder_String_any_k lays169 Tryz.Builder_Extra_156 b b s.data.toList w h (Nat.le_of_lt h.lt)).mono ?_; rintro e w' ⟨h1, _, h3, _⟩; exact ⟨by rw [h1], h3⟩
def joinB (l : List ByteArray) : ByteArray := ⟨(Lib.join (l.map (·.data.toList)) [32]).toArray⟩
theorem OS.at_ {w : World} {base : Nat} {A : Option Addr} {n c : Nat} {l : List ByteArray} (h : OS w base A n c l) (hn : 0 < n) : ∃ g, A = some ⟨g, 0, none⟩ ∧ base ≤ g ∧ g < w.heap.size ∧ ∀ j, j < n → w.cell? ⟨g, j, none⟩ = some (.string (l[j]?.getD ⟨#[]⟩)) := by
  have hs := h.ss; have hlt := h.lt; rcases h.2 with ⟨h0, h1⟩ | ⟨g, cap, cur, e1, h2, hh, hr⟩
  · omega
  · injection e1 with e1 _ _
    subst e1; refine ⟨g, rfl, h2, Blk.lt (t := 9) (cs := cur) hh, fun j hj => ?_⟩; obtain ⟨ad, e, _, hc⟩ := hs.cell hj; injection e with e
    subst e; rw [show (⟨g, 0, none⟩ : Addr).add j = ⟨g, j, none⟩ by unfold Addr.add; split <;> simp_all] at hc; exact hc
theorem join_any (base : Nat) (A : Option Addr) (n c : Nat) (l : List ByteArray) (w : World) (h : OS w base A n c l) (hn : n ≤ 1000000) (hl : (joinB l).size ≤ 1000000000) :
    Calls Tryz.prog 85 #[.slice A n c, .string ⟨#[32]⟩] w fun e w' => e = .returned (.string (joinB l)) ∧ Below w.heap.size w w' := by
  have hlen := h.len; subst hlen; rcases Nat.eq_zero_or_pos l.length with h0 | h0
  · have : l = [] := List.length_eq_zero_iff.1 h0; subst this; refine (Tryz.strings_Join_none A c ⟨#[32]⟩ w).mono ?_; rintro e w' ⟨h3, h4⟩; exact ⟨h3, h4 ▸ Below.refl _ _⟩
  · obtain ⟨g, rfl, _, hb, hc⟩ := h.at_ h0; refine (Tryz.strings_Join g 0 c l ⟨#[32]⟩ w (fun j x hx => ?_) hb (by omega) h.cap.1 ?_).mono ?_
    · rw [Nat.zero_add, hc j (List.getElem?_eq_some_iff.1 hx).1, hx]; rfl
    · have : (joinB l).size = (Lib.join (l.map (·.data.toList)) [32]).length := rfl; have e : (⟨#[32]⟩ : ByteArray).data.toList = [32] := rfl; rw [e]; omega
    · rintro e w' ⟨h3, h4⟩; exact ⟨h3, h4⟩
end Go.Proofs.YtabkpbbjodfolaaGreatDoor
namespace Go.Proofs.YtabkpbbjodfolaaGreatDoor
set_option linter.unusedSimpArgs false
open Go.RowKit
set_option linter.unusedVariables false
def kFr : ByteArray := ⟨#[102, 114, 97, 109, 101]⟩
def kMo : ByteArray := ⟨#[109, 111, 114, 101]⟩
theorem joinTail_len {m : Nat} : ∀ r : List (List UInt8), (∀ x ∈ r, x.length ≤ m) → (Lib.joinTail [32] r).length ≤ r.length * (m + 1)
  | [], _ => by simp [Lib.joinTail]
  | x :: r, h => by
    have h1 := joinTail_len r (fun y hy => h y (List.mem_cons_of_mem _ hy)); have h2 := h x (List.mem_cons_self ..); unfold Lib.joinTail at h1 ⊢; rw [List.map_cons, List.flatten_cons, List.length_append, List.length_append, List.length_cons, List.length_cons, List.length_nil, Nat.add_mul]; omega
theorem joinB_size {m : Nat} (l : List ByteArray) (h : ∀ x ∈ l, x.size ≤ m) : (joinB l).size ≤ l.length * (m + 1) := by
  have e : (joinB l).size = (Lib.join (l.map (·.data.toList)) [32]).length := rfl; rw [e]
  cases l with
  | nil => simp [Lib.join, List.intercalate]
  | cons x r =>
    rw [List.map_cons, Lib.join_cons, List.length_append, List.length_cons, Nat.add_mul]
    have h1 := joinTail_len (m := m) (r.map (·.data.toList)) (fun y hy => by
      obtain ⟨z, hz, rfl⟩ := List.mem_map.1 hy
      exact h z (List.mem_cons_of_mem _ hz))
    have h2 : x.data.toList.length ≤ m := h x (List.mem_cons_self ..); rw [List.length_map] at h1; omega
def lineB (kw : ByteArray) (X : List ByteArray) : ByteArray := joinB (kw :: X.take 20) ++ ⟨#[10]⟩
theorem join_size33 {kw : ByteArray} {X : List ByteArray} (hk : kw.size ≤ 5) (hX : ∀ x ∈ X, x.size ≤ 33) : (joinB (kw :: X.take 20)).size ≤ 714 := by
  have h := joinB_size (m := 33) (kw :: X.take 20) (fun x hx => by
    rcases List.mem_cons.1 hx with rfl | hx
    · omega
    · exact hX x (List.mem_of_mem_take hx))
  have : (kw :: X.take 20).length ≤ 21 := (by rw [List.length_cons, List.length_take]; omega); have h2 : (kw :: X.take 20).length * (33 + 1) ≤ 21 * 34 := Nat.mul_le_mul this (Nat.le_refl _); omega
theorem lineB_size {kw : ByteArray} {X : List ByteArray} (hk : kw.size ≤ 5) (hX : ∀ x ∈ X, x.size ≤ 33) : (lineB kw X).size ≤ 1000 := by
  have := join_size33 hk hX; unfold lineB; rw [ByteArray.size_append]; have : (⟨#[10]⟩ : ByteArray).size = 1 := rfl; omega
def frmT : Nat → ByteArray → List ByteArray → ByteArray
  | 0, kw, X => lineB kw X
  | f + 1, kw, X => if 20 < X.length then lineB kw X ++ frmT f kMo (X.drop 20) else lineB kw X
theorem frmT_last {f : Nat} {kw : ByteArray} {X : List ByteArray} (h : X.length ≤ 20) : frmT f kw X = lineB kw X := by
  cases f with
  | zero => rfl
  | succ f => rw [frmT, if_neg (by omega)]
def frmN (o : SpO) (r : RgV) : List ByteArray := r.l.map (fun i => (snm o)[i.toNat]?.getD ⟨#[]⟩) ++ r.k.map (fun i => (cnm o)[i.toNat]?.getD ⟨#[]⟩)
def frmX (o : SpO) (r : RgV) : ByteArray := frmT 5 kFr (frmN o r)
def prtX (o : SpO) (L : List RgV) : ByteArray := L.foldl (fun s r => s ++ frmX o r) ⟨#[]⟩
theorem prtX_succ {o : SpO} {L : List RgV} {k : Nat} {x : RgV} (h : L[k]? = some x) : prtX o (L.take (k + 1)) = prtX o (L.take k) ++ frmX o x := by
  unfold prtX; rw [List.take_add_one, h, List.foldl_append]; rfl
def frmK (o : SpO) (L : List RgV) (i : Nat) : Int := regE o (L[i]?.getD rg0)
def printE (o : SpO) (L : List RgV) : Int := if specE o = 0 then (if 500 < L.length then 3 else fstE (frmK o L) L.length 0) else specE o
def printX (o : SpO) (L : List RgV) : ByteArray := if printE o L = 0 then prtX o L else ⟨#[]⟩
theorem nms_size {o : SpO} (h : specE o = 0) : (∀ x ∈ snm o, x.size ≤ 33) ∧ ∀ x ∈ cnm o, x.size ≤ 33 := by
  obtain ⟨h1, h2, h3⟩ := specE_nm h; refine ⟨fun x hx => ?_, fun x hx => ?_⟩
  · obtain ⟨y, hy, rfl⟩ := List.mem_map.1 hx; have e1 := (nmB_size (h2 y hy).1).2
    have e2 : (o.ds[y.dv.toNat]?.getD dv0).nm.size ≤ 16 := by
      cases hd : o.ds[y.dv.toNat]? with
      | none => exact Nat.zero_le _
      | some d => exact (nmB_size (h1 d (List.mem_of_getElem? hd))).2
    unfold nmSt; rw [ByteArray.size_append, ByteArray.size_append]; have : (⟨#[64]⟩ : ByteArray).size = 1 := rfl; omega
  · obtain ⟨y, hy, rfl⟩ := List.mem_map.1 hx; have e1 := (nmB_size (h3 y hy)).2; show (⟨#[43]⟩ ++ y.nm).size ≤ 33; rw [ByteArray.size_append]; have : (⟨#[43]⟩ : ByteArray).size = 1 := rfl; omega
theorem getD_size {l : List ByteArray} (h : ∀ x ∈ l, x.size ≤ 33) (i : Nat) : (l[i]?.getD ⟨#[]⟩).size ≤ 33 := by
  cases hd : l[i]? with
  | none => exact Nat.zero_le _
  | some d => exact h d (List.mem_of_getElem? hd)
theorem frmN_size {o : SpO} (h : specE o = 0) (r : RgV) : ∀ x ∈ frmN o r, x.size ≤ 33 := by
  obtain ⟨h1, h2⟩ := nms_size h; intro x hx; rcases List.mem_append.1 hx with hx | hx
  · obtain ⟨i, _, rfl⟩ := List.mem_map.1 hx; exact getD_size h1 _
  · obtain ⟨i, _, rfl⟩ := List.mem_map.1 hx; exact getD_size h2 _
def dropA (A : Option Addr) (i : Nat) : Option Addr := A.map fun ad => ⟨ad.block, ad.off + i, none⟩
theorem SS.take {w : World} {A : Option Addr} {n m : Nat} {l : List ByteArray} (h : SS w A n l) (hm : m ≤ n) : SS w A m (l.take m) := by
  have hl := h.1; refine ⟨by rw [List.length_take]; omega, by rw [List.length_map, List.length_take]; omega, fun h0 => ?_⟩; obtain ⟨ad, e, hb, hc⟩ := h.2.2 (by omega); refine ⟨ad, e, hb, fun j u hu => hc j u ?_⟩; rw [List.map_take] at hu
  have hj : j < m := by
    have := (List.getElem?_eq_some_iff.1 hu).1; rw [List.length_take] at this; omega
  rw [List.getElem?_take_of_lt hj] at hu; exact hu
theorem OS.drop {w : World} {base : Nat} {A : Option Addr} {n c i : Nat} {l : List ByteArray} (h : OS w base A n c l) (hi : i ≤ n) : SS w (dropA A i) (n - i) (l.drop i) := by
  have hl := h.len; refine ⟨by rw [List.length_drop]; omega, by rw [List.length_map, List.length_drop]; omega, fun h0 => ?_⟩; obtain ⟨g, rfl, _, hb, hc⟩ := h.at_ (by omega); refine ⟨_, rfl, hb, fun j u hu => ?_⟩; rw [List.getElem?_map] at hu
  have hj : i + j < n := by
    cases hx : (l.drop i)[j]? with
    | none => rw [hx] at hu; cases hu
    | some d =>
      have := (List.getElem?_eq_some_iff.1 hx).1; rw [List.length_drop] at this; omega
  rw [List.getElem?_drop] at hu; have := hc (i + j) hj; rw [show (⟨g, 0 + i, none⟩ : Addr).add j = ⟨g, i + j, none⟩ by unfold Addr.add; split <;> simp_all, this]; rw [List.getElem?_eq_getElem (by omega)] at hu ⊢; exact hu
theorem OS.made (w : World) {base : Nat} (s : ByteArray) (hb : base ≤ w.heap.size) : OS (w.alloc (.cells #[.string s] 9)) base (some ⟨w.heap.size, 0, none⟩) 1 1 [s] :=
  ⟨rfl, .inr ⟨w.heap.size, 1, #[.string s], rfl, hb, Blk.new w _ _, Nat.le_refl _, by decide, rfl, rfl⟩⟩
structure PrS (wb W : World) (l : List (Nat × TypeId × Array Value)) (s : ByteArray) : Prop where
  lg : Lg wb W l
  bd : BD W wb.heap.size s
section
variable {wb W W' : World} {l : List (Nat × TypeId × Array Value)} {s : ByteArray}
theorem PrS.bl (h : PrS wb W l s) : Below wb.heap.size wb W := h.lg.bl
theorem PrS.at_ (h : PrS wb W l s) (k : Nat) {g : Nat} {t : TypeId} {cs : Array Value} (hk : l[k]? = some (g, t, cs)) : Blk W g t cs := h.lg.at_ k hk
theorem PrS.below (h : PrS wb W l s) (hb : Below W.heap.size W W') : PrS wb W' l s := ⟨h.lg.below hb, h.bd.below hb⟩
theorem PrS.new {g : Nat} {t : TypeId} {cs : Array Value} (h : PrS wb W l s) (zg : g = W.heap.size) (zm : Mv W.heap.size W W') (zb : Blk W' g t cs) : PrS wb W' ((g, t, cs) :: l) s :=
  ⟨h.lg.new zg zm zb, h.bd.below (below_mv (Below.refl _ _) zm (Nat.le_refl _) (Nat.le_refl _))⟩
theorem PrS.upd {g : Nat} {t t' : TypeId} {cs cs' : Array Value} (h : PrS wb W ((g, t, cs) :: l) s) (hm : Mv g W W') (zb : Blk W' g t' cs') (ht : t ≠ 5 := by decide) (hn : t ≠ 136 := by decide) : PrS wb W' ((g, t', cs') :: l) s :=
  ⟨h.lg.upd hm zb, h.bd.mv hm (h.at_ 0 rfl) ht hn⟩
theorem PrS.drop {p : Nat × TypeId × Array Value} (h : PrS wb W (p :: l) s) : PrS wb W l s := ⟨h.lg.drop, h.bd⟩
theorem PrS.app {A : Option Addr} {n c : Nat} {X : List ByteArray} (h : PrS wb W l s) (ho : OS W wb.heap.size A n c X) (hg : W.grownBy W' (Value.slice A n c).ownBlock) (ht : ∀ p ∈ l, 9 ≠ p.2.1) : PrS wb W' l s :=
  ⟨h.lg.grown hg (fun q hq => (ho.lt q hq).1) (fun p hp e => ho.ne_blk (h.lg.ld.all p hp) (ht p hp) e), h.bd.grown ho hg⟩
theorem PrS.wr {t : ByteArray} (h : PrS wb W l s) (hb : BD W' wb.heap.size t) (hbl : Below wb.heap.size W W') (hk : Lib.OthersKept 5 (some wb.heap.size) W W') (ht : ∀ p ∈ l, p.2.1 ≠ 5 ∧ p.2.1 ≠ 136) : PrS wb W' l t :=
  ⟨h.lg.kept h.bd hk hbl (Nat.le_refl _) ht, hb⟩
end
theorem alloc_bld (w : World) : (Instr.alloc 136 true (.tuple #[])).run Tryz.prog w = .ok (.pointer (some ⟨w.heap.size, 0, none⟩)) (w.alloc (.cells #[.pointer none, .slice none 0 0] 136)) := by kernel_rfl
theorem PrS.start {w w' : World} (zm : Mv w.heap.size w w') (zb : Blk w' w.heap.size 136 #[.pointer none, .slice none 0 0]) : PrS w w' [] ⟨#[]⟩ :=
  ⟨(Lg.nil w).below (below_mv (Below.refl _ _) zm (Nat.le_refl _) (Nat.le_refl _)), BD.new zb⟩
end Go.Proofs.YtabkpbbjodfolaaGreatDoor
namespace Go.Proofs.YtabkpbbjodfolaaGreatDoor
set_option linter.unusedSimpArgs false
set_option linter.unusedVariables false
def insL {α : Type} (L : List α) (p : Nat) (x : α) : List α := L.take p ++ x :: L.drop p
def delL {α : Type} (L : List α) (p : Nat) : List α := L.take p ++ L.drop (p + 1)
theorem insL_len {α : Type} {L : List α} {p : Nat} {x : α} (h : p ≤ L.length) : (insL L p x).length = L.length + 1 := by
  unfold insL; simp; omega
theorem delL_len {α : Type} {L : List α} {p : Nat} (h : p < L.length) : (delL L p).length = L.length - 1 := by
  unfold delL; simp; omega
theorem del_ins {α : Type} {L : List α} {p : Nat} {x : α} (h : p ≤ L.length) : delL (insL L p x) p = L := by
  unfold delL insL; have hl : (L.take p).length = p := (by rw [List.length_take]; omega); rw [List.take_append_of_le_length (by omega), List.take_of_length_le (by omega), show p + 1 = (L.take p).length + 1 by omega, List.drop_append]; have h1 : (L.take p).drop ((L.take p).length + 1) = [] := List.drop_eq_nil_of_le (by omega); rw [h1, List.nil_append, show (L.take p).length + 1 - (L.take p).length = 1 by omega]; exact List.take_append_drop p L
theorem ins_del {α : Type} {L : List α} {p : Nat} {x : α} (h : L[p]? = some x) : insL (delL L p) p x = L := by
  obtain ⟨hp, hx⟩ := List.getElem?_eq_some_iff.1 h; unfold delL insL; have hl : (L.take p).length = p := (by rw [List.length_take]; omega); rw [List.take_append_of_le_length (by omega), List.take_of_length_le (by omega)]
  have h2 : (L.take p ++ L.drop (p + 1)).drop p = L.drop (p + 1) := by
    have := List.drop_left (l₁ := L.take p) (l₂ := L.drop (p + 1))
    rwa [hl] at this
  rw [h2, ← hx, ← List.drop_eq_getElem_cons hp]; exact List.take_append_drop p L
theorem set_set {α : Type} {L : List α} {p : Nat} {x y : α} (h : L[p]? = some x) : (L.set p y).set p x = L := by
  obtain ⟨hp, hx⟩ := List.getElem?_eq_some_iff.1 h; rw [List.set_set, ← hx]; exact List.set_getElem_self hp
inductive Ed (α : Type) where
  | ins (p : Nat) (r : α)
  | rep (p : Nat) (r o : α)
  | del (p : Nat) (o : α)
def Ed.fw {α : Type} : Ed α → List α → List α
  | .ins p r, L => insL L p r
  | .rep p r _, L => L.set p r
  | .del p _, L => delL L p
def Ed.bw {α : Type} : Ed α → List α → List α
  | .ins p _, L => delL L p
  | .rep p _ o, L => L.set p o
  | .del p o, L => insL L p o
def Ed.ok {α : Type} : Ed α → List α → Prop
  | .ins p _, L => p ≤ L.length ∧ L.length < 500
  | .rep p _ o, L => L[p]? = some o
  | .del p o, L => L[p]? = some o
theorem Ed.bw_fw {α : Type} {e : Ed α} {L : List α} (h : e.ok L) : e.bw (e.fw L) = L := by
  cases e with
  | ins p r => exact del_ins h.1
  | rep p r o => exact set_set h
  | del p o => exact ins_del h
theorem Ed.fw_len {α : Type} {e : Ed α} {L : List α} (h : e.ok L) (hl : L.length ≤ 500) : (e.fw L).length ≤ 500 := by
  cases e with
  | ins p r => show (insL L p r).length ≤ 500; rw [insL_len h.1]; have := h.2; omega
  | rep p r o => show (L.set p r).length ≤ 500; rw [List.length_set]; exact hl
  | del p o =>
    show (delL L p).length ≤ 500; have h : L[p]? = some o := h; rw [delL_len (List.getElem?_eq_some_iff.1 h).1]; omega
def Ed.map {α β : Type} (f : α → β) : Ed α → Ed β
  | .ins p r => .ins p (f r)
  | .rep p r o => .rep p (f r) (f o)
  | .del p o => .del p (f o)
structure EdV (α : Type) where
  e : Ed α
  b : Nat
  a : Nat
def EdV.map {α β : Type} (f : α → β) (x : EdV α) : EdV β := ⟨x.e.map f, x.b, x.a⟩
structure SqV (α : Type) where
  L : List α
  p : Nat
  E : List (EdV α)
  d : Nat
def SqV.map {α β : Type} (f : α → β) (q : SqV α) : SqV β := ⟨q.L.map f, q.p, q.E.map (EdV.map f), q.d⟩
def SqV.emp (α : Type) : SqV α := ⟨[], 0, [], 0⟩
def trim {α : Type} (l : List α) : List α := if 100 < l.length then l.drop 1 else l
def SqV.does {α : Type} (q : SqV α) (e : Ed α) (p : Nat) : SqV α := ⟨e.fw q.L, p, trim (q.E.take q.d ++ [⟨e, q.p, 0⟩]), (trim (q.E.take q.d ++ [⟨e, q.p, 0⟩])).length⟩
def SqV.undo {α : Type} (q : SqV α) : SqV α := match q.E[q.d - 1]? with
  | none => q
  | some x => ⟨x.e.bw q.L, x.b, q.E.set (q.d - 1) ⟨x.e, x.b, q.p⟩, q.d - 1⟩
def SqV.redo {α : Type} (q : SqV α) : SqV α := match q.E[q.d]? with
  | none => q
  | some x => ⟨x.e.fw q.L, x.a, q.E, q.d + 1⟩
theorem SqV.undo_at {α : Type} {q : SqV α} {x : EdV α} (h : q.E[q.d - 1]? = some x) : q.undo = ⟨x.e.bw q.L, x.b, q.E.set (q.d - 1) ⟨x.e, x.b, q.p⟩, q.d - 1⟩ := by unfold SqV.undo; rw [h]
theorem SqV.redo_at {α : Type} {q : SqV α} {x : EdV α} (h : q.E[q.d]? = some x) : q.redo = ⟨x.e.fw q.L, x.a, q.E, q.d + 1⟩ := by unfold SqV.redo; rw [h]
structure Chn {α : Type} (q : SqV α) (F : Nat → List α) : Prop where
  now : F q.d = q.L
  ok : ∀ i x, q.E[i]? = some x → x.e.ok (F i) ∧ F (i + 1) = x.e.fw (F i)
  len : ∀ i, i ≤ q.E.length → (F i).length ≤ 500
  b : ∀ i x, q.E[i]? = some x → x.b ≤ (F i).length
  a : ∀ i x, q.E[i]? = some x → q.d ≤ i → x.a ≤ (F (i + 1)).length
structure SqV.Ok {α : Type} (q : SqV α) : Prop where
  p : q.p ≤ q.L.length
  d : q.d ≤ q.E.length
  e : q.E.length ≤ 100
  chn : ∃ F, Chn q F
theorem SqV.Ok.len {α : Type} {q : SqV α} (h : q.Ok) : q.L.length ≤ 500 := by
  obtain ⟨F, hF⟩ := h.chn; rw [← hF.now]; exact hF.len _ h.d
theorem SqV.emp_ok (α : Type) : (SqV.emp α).Ok := ⟨Nat.le_refl _, Nat.le_refl _, Nat.zero_le _, fun _ => [], rfl, fun i x h => by simp [SqV.emp] at h, fun _ _ => Nat.zero_le _, fun i x h => by simp [SqV.emp] at h, fun i x h => by simp [SqV.emp] at h⟩
structure StV (α : Type) where
  L : List α
  p : Nat
structure RsV (α : Type) where
  L : List α
  p : Nat
  E : List (StV α × StV α)
  d : Nat
def RsV.edit {α : Type} (r : RsV α) (L : List α) (p : Nat) : RsV α := ⟨L, p, trim (r.E.take r.d ++ [(⟨r.L, r.p⟩, ⟨[], 0⟩)]), (trim (r.E.take r.d ++ [(⟨r.L, r.p⟩, ⟨[], 0⟩)])).length⟩
def RsV.undo {α : Type} (r : RsV α) : RsV α := match r.E[r.d - 1]? with
  | none => r
  | some x => ⟨x.1.L, x.1.p, r.E.set (r.d - 1) (x.1, ⟨r.L, r.p⟩), r.d - 1⟩
def RsV.redo {α : Type} (r : RsV α) : RsV α := match r.E[r.d]? with
  | none => r
  | some x => ⟨x.2.L, x.2.p, r.E, r.d + 1⟩
theorem RsV.undo_at {α : Type} {q : RsV α} {x : StV α × StV α} (h : q.E[q.d - 1]? = some x) : q.undo = ⟨x.1.L, x.1.p, q.E.set (q.d - 1) (x.1, ⟨q.L, q.p⟩), q.d - 1⟩ := by unfold RsV.undo; rw [h]
theorem RsV.redo_at {α : Type} {q : RsV α} {x : StV α × StV α} (h : q.E[q.d]? = some x) : q.redo = ⟨x.2.L, x.2.p, q.E, q.d + 1⟩ := by unfold RsV.redo; rw [h]
structure Sim {α : Type} (q : SqV α) (r : RsV α) : Prop where
  ok : q.p ≤ q.L.length ∧ q.d ≤ q.E.length ∧ q.E.length ≤ 100
  L : r.L = q.L
  p : r.p = q.p
  d : r.d = q.d
  n : r.E.length = q.E.length
  chn : ∃ F, Chn q F ∧ ∀ i x y, q.E[i]? = some x → r.E[i]? = some y → y.1 = ⟨F i, x.b⟩ ∧ (q.d ≤ i → y.2 = ⟨F (i + 1), x.a⟩)
theorem Sim.sq {α : Type} {q : SqV α} {r : RsV α} (h : Sim q r) : q.Ok := by
  obtain ⟨F, hF, _⟩ := h.chn; exact ⟨h.ok.1, h.ok.2.1, h.ok.2.2, F, hF⟩
theorem Sim.emp (α : Type) : Sim (SqV.emp α) ⟨[], 0, [], 0⟩ := by
  obtain ⟨F, hF⟩ := (SqV.emp_ok α).chn; exact ⟨⟨Nat.le_refl _, Nat.le_refl _, Nat.zero_le _⟩, rfl, rfl, rfl, rfl, F, hF, fun i x y h => by simp [SqV.emp] at h⟩
theorem Sim.pos {α : Type} {q : SqV α} {r : RsV α} (h : Sim q r) {p : Nat} (hp : p ≤ q.L.length) : Sim { q with p := p } { r with p := p } := by
  obtain ⟨F, hF, hE⟩ := h.chn; exact ⟨⟨hp, h.ok.2.1, h.ok.2.2⟩, h.L, rfl, h.d, h.n, F, ⟨hF.now, hF.ok, hF.len, hF.b, hF.a⟩, hE⟩
theorem take_get {α : Type} {l : List α} {d i : Nat} {x z : α} (hd : d ≤ l.length) (h : (l.take d ++ [z])[i]? = some x) : (i < d ∧ l[i]? = some x) ∨ (i = d ∧ x = z) := by
  have hl : (l.take d).length = d := (by rw [List.length_take]; omega); rcases Nat.lt_or_ge i d with h1 | h1
  · rw [List.getElem?_append_left (by omega), List.getElem?_take_of_lt h1] at h; exact .inl ⟨h1, h⟩
  · rw [List.getElem?_append_right (by omega), hl] at h; rcases Nat.lt_or_ge d i with h2 | h2
    · rw [List.getElem?_eq_none (by simp; omega)] at h; cases h
    · obtain rfl : i = d := (by omega); rw [Nat.sub_self] at h; exact .inr ⟨rfl, by injection h with h; exact h.symm⟩
theorem Sim.edit {α : Type} {q : SqV α} {r : RsV α} (h : Sim q r) {e : Ed α} (he : e.ok q.L) {p : Nat} (hp : p ≤ (e.fw q.L).length) : Sim (q.does e p) (r.edit (e.fw q.L) p) := by
  obtain ⟨F, hF, hE⟩ := h.chn; have h500 := h.sq.len; have hd := h.ok.2.1; have he100 := h.ok.2.2; have hrd : r.d ≤ r.E.length := (by rw [h.d, h.n]; exact hd); have hlq : (q.E.take q.d ++ [(⟨e, q.p, 0⟩ : EdV α)]).length = q.d + 1 := (by rw [List.length_append, List.length_take]; simp; omega); have hlr : (r.E.take r.d ++ [((⟨r.L, r.p⟩, ⟨[], 0⟩) : StV α × StV α)]).length = q.d + 1 := (by rw [List.length_append, List.length_take, ← h.d]; simp; omega); obtain ⟨G, hG⟩ : ∃ G : Nat → List α, G = fun i => if i ≤ q.d then F i else e.fw q.L := ⟨_, rfl⟩
  have hGl : ∀ i, i ≤ q.d → G i = F i := fun i hi => by rw [hG]; exact if_pos hi
  have hGd : G (q.d + 1) = e.fw q.L := (by rw [hG]; exact if_neg (by omega))
  -- the edits before they are cut to a hundred
  have hok : ∀ i x, (q.E.take q.d ++ [(⟨e, q.p, 0⟩ : EdV α)])[i]? = some x → (x.e.ok (G i) ∧ G (i + 1) = x.e.fw (G i)) ∧ x.b ≤ (G i).length ∧ i ≤ q.d := fun i x hx => by
    rcases take_get hd hx with ⟨h1, h2⟩ | ⟨h1, h2⟩
    · rw [hGl i (by omega), hGl (i + 1) (by omega)]; exact ⟨hF.ok i x h2, hF.b i x h2, by omega⟩
    · subst h1 h2; rw [hGl _ (Nat.le_refl _), hGd, hF.now]; exact ⟨⟨he, rfl⟩, h.ok.1, Nat.le_refl _⟩
  have hlen : ∀ i, i ≤ q.d + 1 → (G i).length ≤ 500 := fun i hi => by
    rcases Nat.lt_or_ge q.d i with h1 | h1
    · rw [show i = q.d + 1 by omega, hGd]; exact Ed.fw_len he h500
    · rw [hGl i h1]; exact hF.len i (by omega)
  have hst : ∀ (i : Nat) (x : EdV α) (y : StV α × StV α), (q.E.take q.d ++ [(⟨e, q.p, 0⟩ : EdV α)])[i]? = some x → (r.E.take r.d ++ [((⟨r.L, r.p⟩, ⟨[], 0⟩) : StV α × StV α)])[i]? = some y → y.1 = ⟨G i, x.b⟩ := fun i x y hx hy => by
    rcases take_get hd hx with ⟨h1, h2⟩ | ⟨h1, h2⟩
    · rcases take_get hrd hy with ⟨h3, h4⟩ | ⟨h3, h4⟩
      · rw [hGl i (by omega)]; exact (hE i x y h2 h4).1
      · rw [h.d] at h3; omega
    · rcases take_get hrd hy with ⟨h3, h4⟩ | ⟨h3, h4⟩
      · rw [h.d] at h3; omega
      · subst h2 h4 h1; rw [hGl _ (Nat.le_refl _), hF.now, h.L, h.p]
  unfold SqV.does RsV.edit
  by_cases ht : 100 < q.d + 1
  · have t1 : trim (q.E.take q.d ++ [(⟨e, q.p, 0⟩ : EdV α)]) = (q.E.take q.d ++ [(⟨e, q.p, 0⟩ : EdV α)]).drop 1 := (by unfold trim; rw [if_pos (by rw [hlq]; exact ht)]); have t2 : trim (r.E.take r.d ++ [((⟨r.L, r.p⟩, ⟨[], 0⟩) : StV α × StV α)]) = (r.E.take r.d ++ [((⟨r.L, r.p⟩, ⟨[], 0⟩) : StV α × StV α)]).drop 1 := (by unfold trim; rw [if_pos (by rw [hlr]; exact ht)]); rw [t1, t2]; have l1 : ((q.E.take q.d ++ [(⟨e, q.p, 0⟩ : EdV α)]).drop 1).length = q.d := (by rw [List.length_drop, hlq]; omega); have l2 : ((r.E.take r.d ++ [((⟨r.L, r.p⟩, ⟨[], 0⟩) : StV α × StV α)]).drop 1).length = q.d := (by rw [List.length_drop, hlr]; omega); refine ⟨⟨hp, Nat.le_refl _, by rw [l1]; omega⟩, rfl, rfl, by show _ = _; rw [l1, l2], by show _ = _; rw [l1, l2], fun i => G (i + 1), ⟨?_, ?_, ?_, ?_, ?_⟩, ?_⟩
    · show G (_ + 1) = _; rw [l1]; exact hGd
    · intro i x hx; have hx : ((q.E.take q.d ++ [(⟨e, q.p, 0⟩ : EdV α)]).drop 1)[i]? = some x := hx; rw [List.getElem?_drop, show 1 + i = i + 1 by omega] at hx; exact (hok (i + 1) x hx).1
    · intro i hi; have hi : i ≤ ((q.E.take q.d ++ [(⟨e, q.p, 0⟩ : EdV α)]).drop 1).length := hi; rw [l1] at hi; exact hlen (i + 1) (by omega)
    · intro i x hx; have hx : ((q.E.take q.d ++ [(⟨e, q.p, 0⟩ : EdV α)]).drop 1)[i]? = some x := hx; rw [List.getElem?_drop, show 1 + i = i + 1 by omega] at hx; exact (hok (i + 1) x hx).2.1
    · intro i x hx hi; have hx : ((q.E.take q.d ++ [(⟨e, q.p, 0⟩ : EdV α)]).drop 1)[i]? = some x := hx; have := (List.getElem?_eq_some_iff.1 hx).1; have hi : ((q.E.take q.d ++ [(⟨e, q.p, 0⟩ : EdV α)]).drop 1).length ≤ i := hi; omega
    · intro i x y hx hy; have hx : ((q.E.take q.d ++ [(⟨e, q.p, 0⟩ : EdV α)]).drop 1)[i]? = some x := hx; have hy : ((r.E.take r.d ++ [((⟨r.L, r.p⟩, ⟨[], 0⟩) : StV α × StV α)]).drop 1)[i]? = some y := hy; refine ⟨?_, fun hi => ?_⟩
      · rw [List.getElem?_drop, show 1 + i = i + 1 by omega] at hx hy; exact hst (i + 1) x y hx hy
      · have := (List.getElem?_eq_some_iff.1 hx).1; have hi : ((q.E.take q.d ++ [(⟨e, q.p, 0⟩ : EdV α)]).drop 1).length ≤ i := hi; omega
  · have t1 : trim (q.E.take q.d ++ [(⟨e, q.p, 0⟩ : EdV α)]) = q.E.take q.d ++ [(⟨e, q.p, 0⟩ : EdV α)] := (by unfold trim; rw [if_neg (by rw [hlq]; exact ht)]); have t2 : trim (r.E.take r.d ++ [((⟨r.L, r.p⟩, ⟨[], 0⟩) : StV α × StV α)]) = r.E.take r.d ++ [((⟨r.L, r.p⟩, ⟨[], 0⟩) : StV α × StV α)] := (by unfold trim; rw [if_neg (by rw [hlr]; exact ht)]); rw [t1, t2]; refine ⟨⟨hp, Nat.le_refl _, by show (q.E.take q.d ++ [(⟨e, q.p, 0⟩ : EdV α)]).length ≤ 100; rw [hlq]; omega⟩, rfl, rfl, by show _ = _; rw [hlq, hlr], by show _ = _; rw [hlq, hlr], G, ⟨?_, ?_, ?_, ?_, ?_⟩, ?_⟩
    · show G _ = _; rw [hlq]; exact hGd
    · exact fun i x hx => (hok i x hx).1
    · intro i hi; have hi : i ≤ (q.E.take q.d ++ [(⟨e, q.p, 0⟩ : EdV α)]).length := hi; rw [hlq] at hi; exact hlen i hi
    · exact fun i x hx => (hok i x hx).2.1
    · intro i x hx hi; have hi : (q.E.take q.d ++ [(⟨e, q.p, 0⟩ : EdV α)]).length ≤ i := hi; rw [hlq] at hi; have := (hok i x hx).2.2; omega
    · intro i x y hx hy; refine ⟨hst i x y hx hy, fun hi => ?_⟩; have hi : (q.E.take q.d ++ [(⟨e, q.p, 0⟩ : EdV α)]).length ≤ i := hi; rw [hlq] at hi; have := (hok i x hx).2.2; omega
theorem Sim.undo {α : Type} {q : SqV α} {r : RsV α} (h : Sim q r) (h0 : q.d ≠ 0) : Sim q.undo r.undo := by
  obtain ⟨F, hF, hE⟩ := h.chn; have hd := h.ok.2.1; have hi : q.d - 1 < q.E.length := (by omega); have hj : q.d - 1 < r.E.length := (by rw [h.n]; exact hi); have hx := List.getElem?_eq_getElem hi; have hy := List.getElem?_eq_getElem hj; generalize q.E[q.d - 1] = x at hx; generalize r.E[q.d - 1] = y at hy; rw [SqV.undo_at hx, RsV.undo_at (x := y) (by rw [h.d]; exact hy)]; obtain ⟨o1, o2⟩ := hF.ok _ _ hx; have e1 := (hE _ x y hx hy).1; rw [show q.d - 1 + 1 = q.d by omega, hF.now] at o2; have hb : x.e.bw q.L = F (q.d - 1) := (by rw [o2]; exact Ed.bw_fw o1); rw [hb, e1, h.d, h.L, h.p]
  have hget : ∀ i z, (q.E.set (q.d - 1) ⟨x.e, x.b, q.p⟩)[i]? = some z → (i = q.d - 1 ∧ z = ⟨x.e, x.b, q.p⟩) ∨ (i ≠ q.d - 1 ∧ q.E[i]? = some z) := fun i z hz => by
    by_cases hc : i = q.d - 1
    · subst hc; rw [List.getElem?_set_self hi] at hz; injection hz with hz
      exact .inl ⟨rfl, hz.symm⟩
    · rw [List.getElem?_set_ne (by omega)] at hz; exact .inr ⟨hc, hz⟩
  refine ⟨⟨hF.b _ _ hx, by rw [List.length_set]; show q.d - 1 ≤ _; omega, by rw [List.length_set]; exact h.ok.2.2⟩, rfl, rfl, rfl, by rw [List.length_set, List.length_set]; exact h.n, F, ⟨rfl, ?_, ?_, ?_, ?_⟩, ?_⟩
  · intro i z hz; rcases hget i z hz with ⟨rfl, rfl⟩ | ⟨_, hz⟩
    · exact ⟨o1, by rw [show q.d - 1 + 1 = q.d by omega, hF.now]; exact o2⟩
    · exact hF.ok i z hz
  · intro i hi; rw [List.length_set] at hi; exact hF.len i hi
  · intro i z hz; rcases hget i z hz with ⟨rfl, rfl⟩ | ⟨_, hz⟩
    · exact (hF.b _ x hx : x.b ≤ _)
    · exact hF.b i z hz
  · intro i z hz hdi; have hdi : q.d - 1 ≤ i := hdi; rcases hget i z hz with ⟨rfl, rfl⟩ | ⟨hne, hz⟩
    · rw [show q.d - 1 + 1 = q.d by omega, hF.now]; exact h.ok.1
    · exact hF.a i z hz (by omega)
  · intro i z u hz hu; rcases hget i z hz with ⟨rfl, rfl⟩ | ⟨hne, hz⟩
    · have hu : (r.E.set (q.d - 1) (⟨F (q.d - 1), x.b⟩, ⟨q.L, q.p⟩))[q.d - 1]? = some u := hu; rw [List.getElem?_set_self hj] at hu; injection hu with hu
      subst hu; exact ⟨rfl, fun _ => by rw [show q.d - 1 + 1 = q.d by omega, hF.now]⟩
    · have hu : (r.E.set (q.d - 1) (⟨F (q.d - 1), x.b⟩, ⟨q.L, q.p⟩))[i]? = some u := hu; rw [List.getElem?_set_ne (by omega)] at hu; obtain ⟨a1, a2⟩ := hE i z u hz hu; exact ⟨a1, fun hdi => a2 (by have hdi : q.d - 1 ≤ i := hdi; omega)⟩
theorem Sim.redo {α : Type} {q : SqV α} {r : RsV α} (h : Sim q r) (h0 : q.d ≠ q.E.length) : Sim q.redo r.redo := by
  obtain ⟨F, hF, hE⟩ := h.chn; have hd := h.ok.2.1; have hi : q.d < q.E.length := (by omega); have hj : q.d < r.E.length := (by rw [h.n]; exact hi); have hx := List.getElem?_eq_getElem hi; have hy := List.getElem?_eq_getElem hj; generalize q.E[q.d] = x at hx; generalize r.E[q.d] = y at hy; rw [SqV.redo_at hx, RsV.redo_at (x := y) (by rw [h.d]; exact hy)]; obtain ⟨o1, o2⟩ := hF.ok _ _ hx; have e2 := (hE _ x y hx hy).2 (Nat.le_refl _); rw [hF.now] at o2; rw [e2, ← o2, h.d]; refine ⟨⟨hF.a _ _ hx (Nat.le_refl _), by show q.d + 1 ≤ q.E.length; omega, h.ok.2.2⟩, rfl, rfl, rfl, h.n, F, ⟨rfl, hF.ok, hF.len, hF.b, fun i z hz hdi => hF.a i z hz (by have hdi : q.d + 1 ≤ i := hdi; omega)⟩, fun i z u hz hu => ⟨(hE i z u hz hu).1, fun hdi => (hE i z u hz hu).2 (by have hdi : q.d + 1 ≤ i := hdi; omega)⟩⟩
end Go.Proofs.YtabkpbbjodfolaaGreatDoor
namespace Go.Proofs.YtabkpbbjodfolaaGreatDoor
set_option linter.unusedSimpArgs false
open Go.RowKit
set_option linter.unusedVariables false
structure MvP (p : Nat → Prop) (w w' : World) : Prop where
  os : w'.os = w.os
  tape : w'.tape = w.tape
  output : w'.output = w.output
  size : w.heap.size ≤ w'.heap.size
  block : ∀ k, k < w.heap.size → ¬ p k → w'.heap[k]? = w.heap[k]?
theorem MvP.refl (p : Nat → Prop) (w : World) : MvP p w w := ⟨rfl, rfl, rfl, Nat.le_refl _, fun _ _ _ => rfl⟩
theorem MvP.trans2 {p q : Nat → Prop} {a b c : World} (h : MvP p a b) (k : MvP q b c) (hq : ∀ i, i < a.heap.size → q i → p i) : MvP p a c :=
  ⟨k.os.trans h.os, k.tape.trans h.tape, k.output.trans h.output, Nat.le_trans h.size k.size, fun i hi hp => (k.block i (Nat.lt_of_lt_of_le hi h.size) (fun e => hp (hq i hi e))).trans (h.block i hi hp)⟩
theorem MvP.trans {p : Nat → Prop} {a b c : World} (h : MvP p a b) (k : MvP p b c) : MvP p a c := h.trans2 k fun _ _ e => e
theorem MvP.mono {p q : Nat → Prop} {w w' : World} (h : MvP p w w') (hq : ∀ i, p i → q i) : MvP q w w' := ⟨h.os, h.tape, h.output, h.size, fun k hk hn => h.block k hk (fun e => hn (hq k e))⟩
theorem MvP.of_mv {g : Nat} {w w' : World} (h : Mv g w w') : MvP (fun i => i = g) w w' := ⟨h.os, h.tape, h.output, h.size, h.block⟩
theorem MvP.of_below {w w' : World} (h : Below w.heap.size w w') : MvP (fun _ => False) w w' := ⟨h.os, h.tape, h.output, h.size, fun k hk _ => h.block k hk⟩
theorem MvP.of_grown {w w' : World} {row : Option Nat} (h : w.grownBy w' row) : MvP (fun i => row = some i) w w' := ⟨h.os, h.tape, h.output, h.size, fun k hk hn => h.block k hk (fun e => hn e.symm)⟩
theorem MvP.below {p : Nat → Prop} {b : Nat} {w0 w w' : World} (h : MvP p w w') (hb : Below b w0 w) (hs : b ≤ w.heap.size) (hp : ∀ i, p i → b ≤ i) : Below b w0 w' :=
  hb.trans ⟨h.os, h.tape, h.output, h.size, fun k hk => h.block k (Nat.lt_of_lt_of_le hk hs) (fun e => by have := hp k e; omega)⟩
theorem MvP.blk {p : Nat → Prop} {w w' : World} {g : Nat} {t : TypeId} {cs : Array Value} (h : MvP p w w') (hB : Blk w g t cs) (hg : ¬ p g) : Blk w' g t cs := (h.block g hB.lt hg).trans hB
theorem MvP.own {p : Nat → Prop} {w w' : World} {base size n : Nat} {e : TypeId} {v : Value} {xs : List Value} (h : MvP p w w') (ho : w.ownsRow base e size v n xs) (hne : ∀ k, v.ownBlock = some k → ¬ p k) : w'.ownsRow base e size v n xs := by
  refine ⟨ho.1, ?_⟩; rcases ho.2 with h0 | ⟨b, cap, cur, e1, hb, hh, h1⟩
  · exact .inl h0
  · subst e1; exact .inr ⟨b, cap, cur, rfl, hb, (h.block b (Blk.lt (t := e) (cs := cur) hh) (hne b rfl)).trans hh, h1⟩
structure RgI (w : World) (imm : Nat → Prop) (r : RgV) : Prop where
  m : RgM w r
  s : ∀ ad, r.A = some ad → imm ad.block
  c : ∀ ad, r.B = some ad → imm ad.block
theorem RgI.kept {w w' : World} {imm p : Nat → Prop} {r : RgV} (h : RgI w imm r) (hm : MvP p w w') (hp : ∀ i, imm i → ¬ p i) (hl : ∀ i, imm i → i < w.heap.size) : RgI w' imm r :=
  ⟨⟨h.m.s.at_block hm.size (fun ad e => hm.block _ (hl _ (h.s ad e)) (hp _ (h.s ad e))), h.m.c.at_block hm.size (fun ad e => hm.block _ (hl _ (h.c ad e)) (hp _ (h.c ad e))), h.m.sc, h.m.cc⟩, h.s, h.c⟩
theorem RgI.more {w : World} {imm imm' : Nat → Prop} {r : RgV} (h : RgI w imm r) (hi : ∀ i, imm i → imm' i) : RgI w imm' r := ⟨h.m, fun ad e => hi _ (h.s ad e), fun ad e => hi _ (h.c ad e)⟩
theorem RgI.of_own {w : World} {b : Nat} {r : RgV} (h : RgO w b r) : RgI w (fun i => b ≤ i ∧ i < w.heap.size) r :=
  ⟨h.rg, fun ad e => ⟨(h.s.lt _ (h.s.addr e).1).1, (h.s.addr e).2⟩, fun ad e => ⟨(h.c.lt _ (h.c.addr e).1).1, (h.c.addr e).2⟩⟩
def RgV.v (r : RgV) : List Int × List Int := (r.l, r.k)
end Go.Proofs.YtabkpbbjodfolaaGreatDoor
