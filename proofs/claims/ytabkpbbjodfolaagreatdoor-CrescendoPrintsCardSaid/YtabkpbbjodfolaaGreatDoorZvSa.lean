/- Regions that end with a store, operations taken however far ahead of it; two that may come up next. -/
import Derived.Test.YtabkpbbjodfolaaGreatDoorZvIa
import Derived.Test.YtabkpbbjodfolaaGreatDoorZvMa
import Derived.Test.YtabkpbbjodfolaaGreatDoorZvDa
import Derived.Test.YtabkpbbjodfolaaGreatDoorZvRa
import Derived.Test.YtabkpbbjodfolaaGreatDoorZvCa
namespace Go.Proofs.YtabkpbbjodfolaaGreatDoor
set_option linter.unusedSimpArgs false
open Go.RowKit
set_option linter.unusedVariables false
section
variable {P : Program} {ops : Array Oper} {Q : Exit → Act → World → Prop} {md : Region.Mode} {S : World → Prop} {L : Nat}
inductive Wts (md : Region.Mode) (ops : Array Oper) (l : Array Bool) (i : Nat) : Nat → Prop where
  | one {k : Nat} (h : waitsB md ops k i = true) (hu : l.getD i true = false) : Wts md ops l i k
  | more {k J : Nat} (h : waitsB md ops k J = true) (hu : l.getD J true = false) (h2 : Wts md ops l i J) : Wts md ops l i k
theorem Wts.not {l : Array Bool} {i k : Nat} (h : Wts md ops l i k) : k ∉ Region.ready md ops l := by
  cases h with
  | one h hu => exact waits_spec h hu
  | more h hu _ => exact waits_spec h hu
theorem Wts.set {l : Array Bool} {i k j : Nat} (h : Wts md ops l i k) (hj : j ∈ Region.ready md ops l) (hji : j ≠ i) : Wts md ops (l.setIfInBounds j true) i k := by
  induction h with
  | one h hu => exact .one h (by rw [getD_set_ne true hji]; exact hu)
  | @more k J h hu h2 ih =>
    have hJ : j ≠ J := fun e => h2.not (by rw [← e]; exact hj)
    exact .more h (by rw [getD_set_ne true hJ]; exact hu) ih
end
end Go.Proofs.YtabkpbbjodfolaaGreatDoor
namespace Go.Proofs.YtabkpbbjodfolaaGreatDoor
set_option linter.unusedSimpArgs false
open Go.RowKit
set_option linter.unusedVariables false
end Go.Proofs.YtabkpbbjodfolaaGreatDoor
namespace Go.Proofs.YtabkpbbjodfolaaGreatDoor
set_option linter.unusedSimpArgs false
open Go.RowKit
set_option linter.unusedVariables false
theorem ERow.ne {w : World} {base n c g : Nat} {A : Option Addr} {xs : List Value} {cs : Array Value} (h : ERow w base A n c xs) (hB : Blk w g 41 cs) {i : Nat} (hi : blkOf A i) : i ≠ g := by
  rintro rfl; obtain ⟨ad, rfl, rfl⟩ := hi; rcases h.at_ with ⟨e, _⟩ | ⟨b, off, cs', e, hb, hB', _⟩
  · cases e
  · injection e with e
    subst e; have h1 : w.heap[b]? = some (.cells cs 41) := hB; have h2 : w.heap[b]? = some (.cells cs' 114) := hB'; rw [h1] at h2; injection h2 with h2
    injection h2 with _ e2
    exact absurd e2 (by decide)
theorem RQ.set {w w' : World} {base : Nat} {o : SpO} {m : SqM} {R : RqV} (h : RQ w base o m R) {s : StO} {d : Nat} (hb : Blk w' m.q 41 (rqC o m ⟨s, R.E, d⟩)) (hm : MvP (fun i => i = m.q) w w') (hs : s.ok w m.imm) : RQ w' base o m ⟨s, R.E, d⟩ ∧ Foot m m w w' :=
  h.edits (EA := m.EA) (ec := m.ec) hb (h.ed.keep hm (fun i hi e => h.ed.ne h.blk hi e)) (hm.mono fun i e => .inl e) (fun i hi => .inl (.inr (.inr hi))) hs h.ev
end Go.Proofs.YtabkpbbjodfolaaGreatDoor
namespace Go.Proofs.YtabkpbbjodfolaaGreatDoor
set_option linter.unusedSimpArgs false
open Go.RowKit
set_option linter.unusedVariables false
theorem StO.ok.now {w : World} {imm : Nat → Prop} {s : StO} (h : StO.ok w imm s) : TbM w s.A s.L.length s.c s.L := Dep.now h
def RedP (base : Nat) (o : SpO) (m : SqM) (R : RqV) (e : Int) (L : List (List Int × List Int)) (p : Nat) (w : World) (en : Ending) (w' : World) : Prop :=
  en = .returned (.int .i64 e) ∧ ∃ m' R', RQ w' base o m' R' ∧ Foot m m' w w' ∧ (∀ i, m.imm i → m'.imm i) ∧ R'.rs = if e = 0 then R.rs.edit L p else R.rs
theorem RedP.no {base : Nat} {o : SpO} {m : SqM} {R : RqV} {e : Int} {L : List (List Int × List Int)} {p : Nat} {w w' : World} (he : e ≠ 0) (hs : RQ w' base o m R) (hb : Below w.heap.size w w') : RedP base o m R e L p w (.returned (.int .i64 e)) w' :=
  ⟨rfl, m, R, hs, Foot.of_below hb, fun _ h => h, by rw [if_neg he]⟩
end Go.Proofs.YtabkpbbjodfolaaGreatDoor
namespace Go.Proofs.YtabkpbbjodfolaaGreatDoor
set_option linter.unusedSimpArgs false
open Go.RowKit
set_option linter.unusedVariables false
theorem map_v_get {L K : List RgV} (h : K.map RgV.v = L.map RgV.v) {k : Nat} {x y : RgV} (hx : L[k]? = some x) (hy : K[k]? = some y) : y.l = x.l ∧ y.k = x.k := by
  have h1 : (K.map RgV.v)[k]? = (L.map RgV.v)[k]? := (by rw [h]); rw [List.getElem?_map, List.getElem?_map, hx, hy] at h1; have h2 : y.v = x.v := (by simpa using h1); unfold RgV.v at h2; injection h2 with a b
  exact ⟨a, b⟩
set_option maxHeartbeats 6400000 in
set_option maxRecDepth 100000 in
theorem sameF_any (A B : Option Addr) (n c d : Nat) (L K : List RgV) (w : World) (hA : TbM w A n c L) (hB : TbM w B n d K) (he : K.map RgV.v = L.map RgV.v) (hn : n ≤ 100000) (hb : ∀ r ∈ L, r.n ≤ 1000000 ∧ r.m ≤ 1000000) :
    Calls Tryz.prog 26 #[.slice A n c, .slice B n d] w fun e w' => e = .returned (.bool true) ∧ Below w.heap.size w w' := by
  have HA : Sl _ := ⟨hA⟩; have HB : Sl _ := ⟨hB⟩; have HE : Sl _ := ⟨he⟩; have HX : Sl _ := ⟨hb⟩; have HC : Sl (n ≤ c ∧ n ≤ d) := ⟨⟨hA.cap.1, hB.cap.1⟩⟩; have hn5 : (n : Int) ≤ 100000 := (by omega); have hb0 : ((n : Int) != (n : Int)) = false := (by simp); clear hA hB he hb; go_enter Tryz.func26, Tryz.ntmps26; go_wp2_with fail; clear hb0
  go_loopw [5] (fun s5 wr => ∃ (k : Nat), k ≤ n ∧ s5 = .int .i64 k ∧ Sl (Below w.heap.size w wr)) (fun s5 _ => n - (RowKit.intOf s5).toNat)
  case atStart => exact ⟨0, Nat.zero_le _, rfl, ⟨Below.refl _ _⟩⟩
  case round =>
    obtain ⟨k, hk, rfl, HW⟩ := hrel; have hk0 : (0 : Int) ≤ (k : Int) := (by omega)
    by_cases hkn : k < n
    · have hkI : decide ((k : Int) < (n : Int)) = true := decide_eq_true (by omega); have hkI2 : (k : Int) < (n : Int) := (by omega); have HBD : Sl (Below wr.heap.size wr wr.drew) := ⟨below_drewN (Below.refl _ _) 1⟩; obtain ⟨ga, oa, x, ha, hga, hx, x0, x1⟩ := (HA.out.below HW.out).at_ hkn; obtain ⟨gb, ob, y, hbb, hgb, hy, y0, y1⟩ := (HB.out.below HW.out).at_ hkn; have HXM : Sl (RgM wr x ∧ RgM wr y ∧ y.l = x.l ∧ y.k = x.k ∧ x.n ≤ 1000000 ∧ x.m ≤ 1000000) := ⟨⟨(HA.out.all x (List.mem_of_getElem? hx)).below HW.out, (HB.out.all y (List.mem_of_getElem? hy)).below HW.out, (map_v_get HE.out hx hy).1, (map_v_get HE.out hx hy).2, HX.out x (List.mem_of_getElem? hx)⟩⟩
      have HQ : Sl (∀ W, Below wr.heap.size wr W → W.rangeAt ga (oa + k * 2) [.slice x.A x.n x.c, .slice x.B x.m x.d] ∧ W.rangeAt gb (ob + k * 2) [.slice y.A y.n y.c, .slice y.B y.m y.d]) := ⟨fun W hW => ⟨fun j v hj => by
          have hj2 : j < 2 := (List.getElem?_eq_some_iff.1 hj).1; rw [hW.cell (p := ⟨ga, oa + k * 2 + j, none⟩) hga]; rcases j with _ | _ | j
          · injection hj with hj; subst hj; exact x0
          · injection hj with hj; subst hj; exact x1
          · omega, fun j v hj => by
          have hj2 : j < 2 := (List.getElem?_eq_some_iff.1 hj).1; rw [hW.cell (p := ⟨gb, ob + k * 2 + j, none⟩) hgb]; rcases j with _ | _ | j
          · injection hj with hj; subst hj; exact y0
          · injection hj with hj; subst hj; exact y1
          · omega⟩⟩
      have HS : Sl (Calls Tryz.prog 23 #[.agg #[.slice x.A x.n x.c, .slice x.B x.m x.d], .agg #[.slice y.A y.n y.c, .slice y.B y.m y.d]] wr.drew fun e w' => e = .returned (.bool true) ∧ Below wr.drew.heap.size wr.drew w') := ⟨sameR_any x y _ (HXM.out.1.below HBD.out) (HXM.out.2.1.below HBD.out) HXM.out.2.2.1 HXM.out.2.2.2.1 HXM.out.2.2.2.2.1 HXM.out.2.2.2.2.2⟩; have hnc : (n : Int) ≤ (c : Int) := (by have := HC.out; omega); have hnd : (n : Int) ≤ (d : Int) := (by have := HC.out; omega); rw [ha, hbb]; clear ha hbb hx hy x0 x1 y0 y1 hga hgb; have hm := HBD.out
      go_upto_region 6 with fail
      have hm := hm; refine wp_region_held_drew (S := fun w' => Below wr.heap.size wr w') (by kernel_rfl) hm (fun hHeld => ?_); clear hm; refine wpAnyH_pure 0 (v := .slice (some ⟨ga, oa, none⟩) n c) rfl (by kernel_rfl) (by kernel_rfl) (by kernel_rfl) (fun _ _ _ h => h) rfl (fun _ => rfl) (by assumption) ?_; simp only [Act.put, sS0, sS1, sS2]; refine wpAnyH_pure 1 (v := .int .i64 (k : Int)) rfl (by kernel_rfl) (by kernel_rfl) (by kernel_rfl) (fun _ _ _ h => h) rfl (fun _ => rfl) (by assumption) ?_; simp only [Act.put, sS0, sS1, sS2]; refine wpAnyH_pure 2 (v := .pointer (some ⟨ga, oa + k * 2, none⟩)) rfl (by kernel_rfl) (by kernel_rfl) (by kernel_rfl) (fun _ _ _ h => h) rfl (fun _ => by go_simp) (by assumption) ?_; simp only [Act.put, sS0, sS1, sS2]; refine wpAnyH_load 3 45 (.tmp 19) rfl rfl rfl ga (oa + k * 2) rfl #[.slice x.A x.n x.c, .slice x.B x.m x.d] _ (fun w' h => (HQ.out w' h).1) Tryz.underlying45 rfl (by kernel_rfl) (by kernel_rfl) (by kernel_rfl) (by kernel_rfl) (fun _ _ _ h => h) (by assumption) ?_; simp only [Act.put, sS0, sS1, sS2]; refine wpAnyH_pure 4 (v := .slice (some ⟨gb, ob, none⟩) n d) rfl (by kernel_rfl) (by kernel_rfl) (by kernel_rfl) (fun _ _ _ h => h) rfl (fun _ => rfl) (by assumption) ?_; simp only [Act.put, sS0, sS1, sS2]; refine wpAnyH_pure 5 (v := .int .i64 (k : Int)) rfl (by kernel_rfl) (by kernel_rfl) (by kernel_rfl) (fun _ _ _ h => h) rfl (fun _ => rfl) (by assumption) ?_; simp only [Act.put, sS0, sS1, sS2]; refine wpAnyH_pure 6 (v := .pointer (some ⟨gb, ob + k * 2, none⟩)) rfl (by kernel_rfl) (by kernel_rfl) (by kernel_rfl) (fun _ _ _ h => h) rfl (fun _ => by go_simp) (by assumption) ?_; simp only [Act.put, sS0, sS1, sS2]; refine wpAnyH_load 7 45 (.tmp 23) rfl rfl rfl gb (ob + k * 2) rfl #[.slice y.A y.n y.c, .slice y.B y.m y.d] _ (fun w' h => (HQ.out w' h).2) Tryz.underlying45 rfl (by kernel_rfl) (by kernel_rfl) (by kernel_rfl) (by kernel_rfl) (fun _ _ _ h => h) (by assumption) ?_; simp only [Act.put, sS0, sS1, sS2]; refine wpAnyH_one 8 rfl (by kernel_rfl) rfl (fun K hK => ?_); go_simp; go_at_call 23
      (with_reducible refine (HS.out).mono ?_)
      rintro e w3 ⟨rfl, hb3⟩; have hb3 : Below wr.heap.size wr w3 := HBD.out.trans (hb3.mono HBD.out.size); have HV : Sl (Below w.heap.size w w3) := ⟨HW.out.trans (hb3.mono HW.out.size)⟩; refine hK.out _ _ hb3 (fun hHeld => ?_); clear hK K
      (try simp only [Act.put, sS0, sS1, sS2])
      refine wpAnyH_pure 9 (v := .bool false) rfl (by kernel_rfl) (by kernel_rfl) (by kernel_rfl) (fun _ _ _ h => h) rfl (fun _ => by go_simp) (by assumption) ?_; simp only [Act.put, sS0, sS1, sS2]; refine wpAnyH_done (by kernel_rfl) ?_ _; clear hHeld hm hb3; have hk5 : (k : Int) < 100000 := (by omega); go_wp2_with fail; exact ⟨⟨k + 1, by omega, by go_num, HV⟩, by simp [RowKit.intOf]; omega⟩
    · obtain rfl : k = n := (by omega); have hkI : decide ((k : Int) < (k : Int)) = false := decide_eq_false (by omega); go_wp2_with fail; go_ret; exact ⟨rfl, HW.out⟩
end Go.Proofs.YtabkpbbjodfolaaGreatDoor
namespace Go.Proofs.YtabkpbbjodfolaaGreatDoor
set_option linter.unusedSimpArgs false
open Go.RowKit
set_option linter.unusedVariables false
theorem Lg.two {b w : World} {l : List (Nat × TypeId × Array Value)} (h : Lg b w l) (i j : Nat) {p q : Nat × TypeId × Array Value} (hp : l[i]? = some p) (hq : l[j]? = some q) (hij : i ≠ j) : Lg b w [p, q] := by
  have h1 := List.mem_of_getElem? hp; have h2 := List.mem_of_getElem? hq; refine ⟨⟨h.bl, fun r hr => ?_, fun r hr => ?_⟩, ?_⟩
  · simp only [List.mem_cons, List.not_mem_nil, or_false] at hr; rcases hr with rfl | rfl
    · exact h.ld.all _ h1
    · exact h.ld.all _ h2
  · simp only [List.mem_cons, List.not_mem_nil, or_false] at hr; rcases hr with rfl | rfl
    · exact h.ld.ge _ h1
    · exact h.ld.ge _ h2
  · have hne : p.1 ≠ q.1 := fun e => hij ((List.getElem?_inj (l := l.map Prod.fst) (by rw [List.length_map]; exact (List.getElem?_eq_some_iff.1 hp).1) h.nd).1 (by rw [List.getElem?_map, List.getElem?_map, hp, hq]; exact congrArg some e))
    simp [hne]
theorem two_rows (w : World) (t u : TypeId) (cs ds : Array Value) : Blk ((w.alloc (.cells cs t)).alloc (.cells ds u)) w.heap.size t cs ∧ Blk ((w.alloc (.cells cs t)).alloc (.cells ds u)) (w.heap.size + 1) u ds ∧ Below w.heap.size w ((w.alloc (.cells cs t)).alloc (.cells ds u)) := by
  have b1 : Below w.heap.size w (w.alloc (.cells cs t)) := (Below.refl _ _).alloc (Nat.le_refl _) _; have b2 : Below (w.alloc (.cells cs t)).heap.size (w.alloc (.cells cs t)) ((w.alloc (.cells cs t)).alloc (.cells ds u)) := (Below.refl _ _).alloc (Nat.le_refl _) _; have h2 := Blk.new (w.alloc (.cells cs t)) u ds; have e : (w.alloc (.cells cs t)).heap.size = w.heap.size + 1 := (by simp); rw [e] at h2; have h1 := Blk.new w t cs; exact ⟨h1.below b2 h1.lt, h2, b1.trans (b2.mono b1.size)⟩
theorem three_rows (w : World) (t u v : TypeId) (cs ds es : Array Value) : Blk (((w.alloc (.cells cs t)).alloc (.cells ds u)).alloc (.cells es v)) w.heap.size t cs ∧ Blk (((w.alloc (.cells cs t)).alloc (.cells ds u)).alloc (.cells es v)) (w.heap.size + 1) u ds ∧ Blk (((w.alloc (.cells cs t)).alloc (.cells ds u)).alloc (.cells es v)) (w.heap.size + 2) v es ∧ Below w.heap.size w (((w.alloc (.cells cs t)).alloc (.cells ds u)).alloc (.cells es v)) := by
  obtain ⟨h1, h2, h3⟩ := two_rows w t u cs ds; have b2 : Below ((w.alloc (.cells cs t)).alloc (.cells ds u)).heap.size ((w.alloc (.cells cs t)).alloc (.cells ds u)) (((w.alloc (.cells cs t)).alloc (.cells ds u)).alloc (.cells es v)) := (Below.refl _ _).alloc (Nat.le_refl _) _; have h4 := Blk.new ((w.alloc (.cells cs t)).alloc (.cells ds u)) v es; have e : ((w.alloc (.cells cs t)).alloc (.cells ds u)).heap.size = w.heap.size + 2 := (by simp); rw [e] at h4; exact ⟨h1.below b2 h1.lt, h2.below b2 h2.lt, h4, h3.trans (b2.mono h3.size)⟩
theorem II.mvR {w w' : World} {A : Option Addr} {n g : Nat} {l : List Int} {t : TypeId} {cs : Array Value} (h : II w A n l) (hB : Blk w g t cs) (hc : ∀ (j : Nat) (z : Int), cs[j]? ≠ some (.int .i64 z)) (hm : Mv g w w') : II w' A n l := by
  refine ⟨h.1, h.2.1, fun hn => ?_⟩; obtain ⟨ad, e, h1, h2⟩ := h.2.2 hn
  have hne : ad.block ≠ g := fun hg => by
    have hl : 0 < l.length := (by rw [h.1]; exact hn); have h3 := h2 0 (iv l[0]) (by rw [List.getElem?_map, List.getElem?_eq_getElem hl]; rfl); unfold World.cell? at h3; rw [block_of_add, hg, show w.heap[g]? = some (.cells cs t (0, 0)) from hB] at h3; simp only [] at h3
    split at h3
    · cases h3
    · exact hc _ _ h3
  refine ⟨ad, e, Nat.lt_of_lt_of_le h1 hm.size, fun j u hu => ?_⟩; rw [← h2 j u hu]; exact World.cell?_of_block (by rw [block_of_add]; exact hm.block _ h1 hne)
theorem RgM.mvR {w w' : World} {g : Nat} {r : RgV} {t : TypeId} (h : RgM w r) (hB : Blk w g t #[.slice none 0 0, .slice none 0 0]) (hm : Mv g w w') : RgM w' r := by
  have hc : ∀ (j : Nat) (z : Int), (#[.slice none 0 0, .slice none 0 0] : Array Value)[j]? ≠ some (.int .i64 z) := by
    intro j z e; rcases j with _ | _ | j
    · cases e
    · cases e
    · cases e
  exact ⟨h.s.mvR hB hc hm, h.c.mvR hB hc hm, h.sc, h.cc⟩
end Go.Proofs.YtabkpbbjodfolaaGreatDoor
