/- What line keeps while it reads names. -/
import Derived.Test.YtabkpbbjodfolaaGreatDoorZvNa
import Derived.Test.YtabkpbbjodfolaaGreatDoorZvKa
namespace Go.Proofs.YtabkpbbjodfolaaGreatDoor
set_option linter.unusedSimpArgs false
open Go.RowKit
set_option linter.unusedVariables false
structure LnC where
  rb : Nat
  b0 : Nat
  SA : Option Addr
  sn : Nat
  sc : Nat
  SL : List ByteArray
  CA : Option Addr
  cn : Nat
  cc : Nat
  CL : List ByteArray
  FA : Option Addr
  fn : Nat
  fc : Nat
  fl : List FdV
  A : Option Addr
  n : Nat
  c : Nat
  H : List RgV
def rdC (C : LnC) (A : Option Addr) (n c last : Nat) : Array Value := #[.slice C.SA C.sn C.sc, .slice C.CA C.cn C.cc, .slice A n c, .int .i64 (last : Int)]
structure LnS (w : World) (C : LnC) (L0 : List RgV) (mark g5r : Nat) (W : World) (last : Nat) (now : RgV) (c5 : Array Value) : Prop where
  bl : Below C.b0 w W
  blk : Blk W C.rb 147 (rdC C C.A C.n C.c last)
  ss : OS W C.b0 C.SA C.sn C.sc C.SL
  cs : OS W C.b0 C.CA C.cn C.cc C.CL
  fo : W.ownsRow C.b0 201 2 (.slice C.FA C.fn C.fc) C.fn (C.fl.flatMap fdC)
  pe : PeS W C.b0 mark C.A C.n C.c C.H L0 now
  g5 : Blk W g5r 45 c5
  ne5 : (Value.slice C.A C.n C.c).ownBlock ≠ some g5r
  hr : C.b0 ≤ C.rb
  h5 : C.b0 ≤ g5r
section
variable {w W W' : World} {C : LnC} {L0 : List RgV} {mark g5r : Nat} {last : Nat} {now : RgV} {c5 : Array Value}
theorem LnS.size (h : LnS w C L0 mark g5r W last now c5) : C.b0 ≤ W.heap.size := Nat.le_trans h.hr (Nat.le_of_lt h.blk.lt)
theorem LnS.below (h : LnS w C L0 mark g5r W last now c5) (hb : Below W.heap.size W W') : LnS w C L0 mark g5r W' last now c5 :=
  ⟨h.bl.trans (hb.mono h.size), h.blk.below hb h.blk.lt, h.ss.below hb, h.cs.below hb, (MvP.of_below hb).own h.fo (fun _ _ e => e), h.pe.below hb, h.g5.below hb h.g5.lt, h.ne5, h.hr, h.h5⟩
theorem LnS.grow {now' : RgV} (h : LnS w C L0 mark g5r W last now c5) {b : Nat} {A' : Option Addr} {n' c' : Nat} {X : List Int} (ho : OI W b A' n' c' X) (hb : C.b0 ≤ b) (hg : W.grownBy W' (Value.slice A' n' c').ownBlock) (hp : PeS W' C.b0 mark C.A C.n C.c C.H L0 now') : LnS w C L0 mark g5r W' last now' c5 := by
  have hm := MvP.of_grown hg; have k1 : ∀ {g : Nat} {t : TypeId} {cs : Array Value}, Blk W g t cs → 3 ≠ t → ¬ ((Value.slice A' n' c').ownBlock = some g) := fun hB ht e => own_ne ho e hB ht rfl
  have k2 : ∀ {base size n : Nat} {e : TypeId} {v : Value} {xs : List Value}, W.ownsRow base e size v n xs → 3 ≠ e → W'.ownsRow base e size v n xs := fun hr he => hm.own hr (fun k hk e => own_neb ho hr e hk he)
  exact ⟨hm.below h.bl h.size (fun k e => Nat.le_trans hb (ho.lt k e).1), hm.blk h.blk (k1 h.blk (by decide)), k2 h.ss (by decide), k2 h.cs (by decide), k2 h.fo (by decide), hp, hm.blk h.g5 (k1 h.g5 (by decide)), h.ne5, h.hr, h.h5⟩
theorem LnS.add1 (h : LnS w C L0 mark g5r W last now c5) {z : Int} {A' : Option Addr} {c' : Nat} {w1 : World} (hb : Below W.heap.size W w1) (ho : OI W' mark A' (now.n + 1) c' (now.l ++ [z])) (hg : w1.grownBy W' (Value.slice now.A now.n now.c).ownBlock)
    (hat : (Value.slice A' (now.n + 1) c').ownBlock = (Value.slice now.A now.n now.c).ownBlock ∨ (Value.slice A' (now.n + 1) c').ownBlock = some w1.heap.size) : LnS w C L0 mark g5r W' last ⟨A', now.n + 1, c', now.l ++ [z], now.B, now.m, now.d, now.k⟩ c5 :=
  (h.below hb).grow (h.below hb).pe.now.s h.pe.bm hg ((h.below hb).pe.app1 ho hg hat)
theorem LnS.add2 (h : LnS w C L0 mark g5r W last now c5) {z : Int} {A' : Option Addr} {c' : Nat} {w1 : World} (hb : Below W.heap.size W w1) (ho : OI W' mark A' (now.m + 1) c' (now.k ++ [z])) (hg : w1.grownBy W' (Value.slice now.B now.m now.d).ownBlock)
    (hat : (Value.slice A' (now.m + 1) c').ownBlock = (Value.slice now.B now.m now.d).ownBlock ∨ (Value.slice A' (now.m + 1) c').ownBlock = some w1.heap.size) : LnS w C L0 mark g5r W' last ⟨now.A, now.n, now.c, now.l, A', now.m + 1, c', now.k ++ [z]⟩ c5 :=
  (h.below hb).grow (h.below hb).pe.now.c h.pe.bm hg ((h.below hb).pe.app2 ho hg hat)
theorem LnS.set5 {c5' : Array Value} (h : LnS w C L0 mark g5r W last now c5) (hm : Mv g5r W W') (hB : Blk W' g5r 45 c5') : LnS w C L0 mark g5r W' last now c5' := by
  have hp := MvP.of_mv hm; have k2 : ∀ {base size n : Nat} {e : TypeId} {v : Value} {xs : List Value}, W.ownsRow base e size v n xs → e ≠ 45 → W'.ownsRow base e size v n xs := fun hr he => hp.own hr (fun k hk e => own_ne hr hk h.g5 he e)
  refine ⟨hp.below h.bl h.size (fun k e => by rw [e]; exact h.h5), hp.blk h.blk (fun e => ?_), k2 h.ss (by decide), k2 h.cs (by decide), k2 h.fo (by decide), ⟨hp.own h.pe.fr (fun k hk e => h.ne5 (by rw [hk, e])), fun r hr => ⟨⟨k2 (h.pe.old r hr).1.s (by decide), k2 (h.pe.old r hr).1.c (by decide), (h.pe.old r hr).1.ne⟩, (h.pe.old r hr).2⟩, ⟨k2 h.pe.now.s (by decide), k2 h.pe.now.c (by decide), h.pe.now.ne⟩, h.pe.bm, Nat.le_trans h.pe.mw hp.size⟩, hB, h.ne5, h.hr, h.h5⟩; have h1 := h.blk; rw [e] at h1; have h1' : W.heap[g5r]? = _ := h1; have h2 : W.heap[g5r]? = _ := h.g5; rw [h1'] at h2; injection h2 with h2
  injection h2 with _ h2
  revert h2
  decide
theorem LnS.setr {last' : Nat} (h : LnS w C L0 mark g5r W last now c5) (hm : Mv C.rb W W') (hB : Blk W' C.rb 147 (rdC C C.A C.n C.c last')) : LnS w C L0 mark g5r W' last' now c5 := by
  have hp := MvP.of_mv hm; have k2 : ∀ {base size n : Nat} {e : TypeId} {v : Value} {xs : List Value}, W.ownsRow base e size v n xs → e ≠ 147 → W'.ownsRow base e size v n xs := fun hr he => hp.own hr (fun k hk e => own_ne hr hk h.blk he e)
  refine ⟨hp.below h.bl h.size (fun k e => by rw [e]; exact h.hr), hB, k2 h.ss (by decide), k2 h.cs (by decide), k2 h.fo (by decide), h.pe.mv hm h.blk, hp.blk h.g5 (fun e => ?_), h.ne5, h.hr, h.h5⟩; have h1 := h.blk; rw [← e] at h1; have h1' : W.heap[g5r]? = _ := h1; have h2 : W.heap[g5r]? = _ := h.g5; rw [h1'] at h2; injection h2 with h2
  injection h2 with _ h2
  revert h2
  decide
theorem LnS.row {row : Option Nat} (h : LnS w C L0 mark g5r W last now c5) (hg : W.grownBy W' row) (hr : row = (Value.slice C.A C.n C.c).ownBlock) : Blk W' C.rb 147 (rdC C C.A C.n C.c last) ∧ Blk W' g5r 45 c5 ∧ OS W' C.b0 C.SA C.sn C.sc C.SL ∧ OS W' C.b0 C.CA C.cn C.cc C.CL ∧ Below C.b0 w W' := by
  have hm := MvP.of_grown hg; have hp : ∀ k, row = some k → (Value.slice C.A C.n C.c).ownBlock = some k := fun k e => by rw [← hr]; exact e
  exact ⟨hm.blk h.blk (fun e => own_ne h.pe.fr (hp _ e) h.blk (by decide) rfl), hm.blk h.g5 (fun e => h.ne5 (hp _ e)), hm.own h.ss (fun k hk e => own_neb h.ss h.pe.fr hk (hp k e) (by decide)), hm.own h.cs (fun k hk e => own_neb h.cs h.pe.fr hk (hp k e) (by decide)), hm.below h.bl h.size (fun k e => (own_lt2 h.pe.fr (hp k e)).1)⟩
theorem LnS.frame_end {W2 : World} {A9 : Option Addr} {c9 : Nat} {row : Option Nat} (h : LnS w C C.H mark g5r W last now c5) (hF : FR W' C.b0 A9 (C.n + 1) c9 (C.H ++ [now])) (hg : W.grownBy W' row) (hr : row = (Value.slice C.A C.n C.c).ownBlock)
    (hm : Mv C.rb W' W2) (hB : Blk W2 C.rb 147 (rdC C A9 (C.n + 1) c9 last)) : Below C.b0 w W2 ∧ RdM W2 C.rb C.b0 C.SA C.sn C.sc C.SL C.CA C.cn C.cc C.CL A9 (C.n + 1) c9 (C.H ++ [now]) last := by
  obtain ⟨k1, _, k3, k4, k5⟩ := h.row hg hr; subst hr; have hp := MvP.of_mv hm; have hfr := (h.pe.frame hF hg).mv hm k1; exact ⟨hp.below k5 (Nat.le_trans h.hr (Nat.le_of_lt k1.lt)) (fun k e => by rw [e]; exact h.hr), hB, hp.own k3 (fun k hk e => own_ne k3 hk k1 (by decide) e), hp.own k4 (fun k hk e => own_ne k4 hk k1 (by decide) e), hfr, h.hr⟩
theorem LnS.more_end {gA : Nat} (h : LnS w C L0 mark g5r W last now c5) (hA : (Value.slice C.A C.n C.c).ownBlock = some gA) (hF : FR W' C.b0 C.A C.n C.c (L0 ++ [now])) (hm : Mv gA W W') : Below C.b0 w W' ∧ RdM W' C.rb C.b0 C.SA C.sn C.sc C.SL C.CA C.cn C.cc C.CL C.A C.n C.c (L0 ++ [now]) last := by
  have hp := MvP.of_mv hm; exact ⟨hp.below h.bl h.size (fun k e => by rw [e]; exact (own_lt2 h.pe.fr hA).1), hp.blk h.blk (fun e => own_ne h.pe.fr hA h.blk (by decide) e.symm), hp.own h.ss (fun k hk e => own_neb h.ss h.pe.fr hk (by rw [e]; exact hA) (by decide)), hp.own h.cs (fun k hk e => own_neb h.cs h.pe.fr hk (by rw [e]; exact hA) (by decide)), h.pe.more hA hF hm, h.hr⟩
end
theorem addsX_step (SN CN : List By) {r : Rv} {fl : List FdV} {k : Nat} {f : FdV} (h : fl[k]? = some f) : addsX SN CN r (fdS (fl.drop k)) = if addE SN CN r f.2.data.toList = 0 then addsX SN CN (addR SN CN r f.2.data.toList) (fdS (fl.drop (k + 1))) else (addE SN CN r f.2.data.toList, r) := by
  obtain ⟨hk, rfl⟩ := List.getElem?_eq_some_iff.1 h; rw [List.drop_eq_getElem_cons hk]; rfl
def byL (l : List ByteArray) : List By := l.map (·.data.toList)
theorem rvOk_add {SN CN : List By} {r : Rv} {x : By} (h : addE SN CN r x = 0) (hr : rvOk SN CN r) : rvOk SN CN (addR SN CN r x) := by
  unfold addE at h; unfold addR
  split at h
  · rename_i hc; rw [if_pos hc]
    have hn : 0 ≤ ixB 0 CN x := by
      unfold putE at h
      split at h
      · omega
      · omega
    obtain ⟨_, k2, _⟩ := ixB_some 0 CN x _ rfl hn; exact ⟨hr.1, putE_asc h hr.2 (by simpa using k2)⟩
  · rename_i hc; rw [if_neg hc]
    have hn : 0 ≤ ixB 0 SN x := by
      unfold putE at h
      split at h
      · omega
      · omega
    obtain ⟨_, k2, _⟩ := ixB_some 0 SN x _ rfl hn; exact ⟨putE_asc h hr.1 (by simpa using k2), hr.2⟩
end Go.Proofs.YtabkpbbjodfolaaGreatDoor
