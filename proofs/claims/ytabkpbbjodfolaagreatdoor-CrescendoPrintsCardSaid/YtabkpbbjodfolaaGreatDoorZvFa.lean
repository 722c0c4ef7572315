/- A range over a function whose iterator keeps state in a block of its own. -/
import Derived.Test.YtabkpbbjodfolaaGreatDoorZvE
import Derived.RangeFuncNested
import Derived.RangeFuncBound
import Derived.RangeFuncCalls
import Derived.RangeFuncLeaves
import Derived.Shelf.Abstract
import Derived.Shelf.RegionOpen
import Derived.WalkKit
import Derived.OwnWalkIn
import Derived.TacticsInMore
import Derived.LoopNIn
import Derived.LoopIn
import Derived.Test.YtabkpbbjodfolaaGreatDoorZvS
import Derived.Lib.OthersKept
import Derived.Lib.TrimU
import Derived.Deep.LoopGhost
import Derived.Test.YtabkpbbjodfolaaGreatDoorZvM
import Derived.Lib.DecodeN
namespace Go.Proofs.YtabkpbbjodfolaaGreatDoor
set_option linter.unusedSimpArgs false
open Go.RowKit Go.Shelf
set_option linter.unusedVariables false
section
variable {F : Fence} {n : Nat} {P : Program}
def SeqSt {α : Type} (F : Fence) (n : Nat) (P : Program) (g : Nat) (lb : Array Value) (encs : α → Array Value) (b : Nat) (Kp : World → World → Prop) (S Sp : List α → Prop) (N : Nat) (w : World) : Prop :=
  ∀ (l : Nat) (J Jx : List α → World → Prop) (W : World), Below w.heap.size w W → AbidesFrom W.heap.size J → (∀ s A B, J s A → Mv b A B → J s B) →
    (∀ pre x W1, J pre W1 → pre.length < N → YieldAt F (n - 1) P l (encs x) W1 fun e W' =>
      (e = .returned (.bool true) ∧ J (pre ++ [x]) W' ∧ Kp W1 W') ∨ (e = .returned (.bool false) ∧ Jx (pre ++ [x]) W')) →
    J [] W →
    CallsIn F n P g (#[.func (.yield l) #[] #[]] ++ lb) W fun e W' => (∃ v, e = .returned v) ∧ ((∃ xs, S xs ∧ J xs W') ∨ (∃ pre, Sp pre ∧ Jx pre W'))
theorem rangeSt {α : Type} {g : Operand} {ps : Array Tmp} {assign body : Code} {Q : Exit → Act → World → Prop} {a : Act} {w : World}
    (hro : F.round = none) (h1 : 1 ≤ n) {gf : Nat} {lb : Array Value} (hg : a.eval g = .func (.func gf) #[] lb) (hFg : F.fn gf) (eg : ∀ args w, (callFunc gf args).run P w = .ok (.enter gf args) w)
    {encs : α → Array Value} {b : Nat} {Kp : World → World → Prop} {S Sp : List α → Prop} {N : Nat} (hb : b < w.heap.size) (hseq : SeqSt F (n - 1) P gf lb encs b Kp S Sp N w)
    (hKt : ∀ {A B C : World}, Kp A B → Kp B C → Kp A C) (hKb : ∀ (W : World) (l : Nat) (o : Obj), w.heap.size ≤ l → Kp W (W.putObj l o)) (hps : ∀ x, (encs x).size = ps.size)
    (I : List α → World → Prop) (Ix : Code → List α → World → Prop) (hI : OwnFrom w.heap.size I) (hIx : ∀ c, OwnFrom w.heap.size (Ix c)) (hIb : ∀ s A B, I s A → Mv b A B → I s B) (h0 : I [] w) (a₁ : α → Act)
    (hassign : ∀ (l : Nat) (x : α) (W : World) (K : Act → World → Prop), K (a₁ x) W →
      assign.wpIn (F.inRound l) (n - 1 - 1) P (Exit.then K (fun _ _ _ => False)) { tmps := (ps.zip (encs x)).foldl (fun t (p, v) => t.setIfInBounds p v) a.tmps, defers := [] } W)
    (hbody : ∀ (l : Nat) (pre : List α) (x : α) (W : World), w.heap.size ≤ l → (∃ r, W.heap[l]? = some (.loop r)) → I pre W → pre.length < N → body.wpIn (F.inRound l) (n - 1 - 1) P (ownPostG w.heap.size Kp I Ix (pre ++ [x]) W) (a₁ x) W)
    (hdone : ∀ (D : Nat) (xs : List α) (W : World), w.heap.size ≤ D → S xs → I xs W → W.heap[D]? = some (.deferred (some [])) → Q .normal { a with defers := { target := .collected D, args := #[] } :: a.defers } W)
    (hstop : ∀ (D : Nat) (c : Code) (pre : List α) (W : World), w.heap.size ≤ D → Sp pre → Ix c pre W → W.heap[D]? = some (.deferred (some [])) → c.wpIn F n P Q { a with defers := { target := .collected D, args := #[] } :: a.defers } W) :
    (Code.rangeFunc g ps assign body).wpIn F n P Q a w := by
  refine wpIn_rangeFunc fun fn hfn => ?_
  rw [hro]; obtain ⟨D, hD⟩ : ∃ D, w.heap.size = D := ⟨_, rfl⟩; obtain ⟨lp, hlp⟩ : ∃ lp : LoopState → Option Code → Loop, ∀ st pe, lp st pe = { state := st, pending := pe, fn, tmps := a.tmps, params := ps, assign, body, defers := D } := ⟨_, fun _ _ => rfl⟩; obtain ⟨V, hV⟩ : ∃ V, (w.alloc (.deferred (some []))).alloc (.loop (lp .ready none)) = V := ⟨_, rfl⟩
  have hlV : V.heap[D + 1]? = some (.loop (lp .ready none)) := by
    rw [← hV]; have := World.alloc_heap_new (w.alloc (.deferred (some []))) (.loop (lp .ready none)); rwa [World.size_alloc, hD] at this
  have hdV : V.heap[D]? = some (.deferred (some [])) := by
    rw [← hV, ← hD]; exact (Below.heap_alloc _ _ _ (by simp)).trans (World.alloc_heap_new w _)
  have hbV : Below w.heap.size w V := (by rw [← hV]; exact ((Below.refl _ w).alloc (Nat.le_refl _) _).alloc (by simp) _); have hiV : I [] V := (by rw [← hV]; exact hI.alloc _ (hI.alloc _ h0)); have hsV : V.heap.size = D + 2 := (by rw [← hV, ← hD]; simp); refine ⟨D + 1, [{ target := .collected D, args := #[] }], V, { target := .fn (.func gf) lb, args := #[.func (.yield (D + 1)) #[] #[]] }, V, gf, #[.func (.yield (D + 1)) #[] #[]] ++ lb, V, ?_, ?_, ?_, ?_, fun _ => h1, ?_⟩
  · have := run_enterLoop_outer (P := P) (w := w) fn a.tmps ps assign body; rw [hD] at this; rw [← hV, hlp]; exact this
  · simp only [resolve, hg]; simp [go_sem]
  · intro f' hf'; simp [Target.leads] at hf'; subst hf'; exact hFg
  · simp [invoke, go_sem, eg]
  refine (hseq (D + 1) (fun pre W => I pre W ∧ W.heap[D + 1]? = some (.loop (lp .ready none)) ∧ W.heap[D]? = some (.deferred (some [])))
    (fun pre W => ∃ c, Ix c pre W ∧ W.heap[D + 1]? = some (.loop (lp .done (some c))) ∧ W.heap[D]? = some (.deferred (some []))) V hbV ?_ ?_ ?_ ⟨hiV, hlV, hdV⟩).mono ?_
  · rintro s A B row ⟨k1, k2, k3⟩ hg' hr; refine ⟨hI s A B row k1 hg' (fun r e => ?_), (grownBy_keeps hg' (fun r e => (hr r e).2) k2 rfl).trans k2, (grownBy_keeps hg' (fun r e => (hr r e).2) k3 rfl).trans k3⟩; obtain ⟨hB, o, ho, hw⟩ := hr r e; exact ⟨by omega, o, ho, Obj.not_cells_of_walk hw⟩
  · rintro s A B ⟨k1, k2, k3⟩ hm; have l2 := (Array.getElem?_eq_some_iff.1 k2).1; have l3 := (Array.getElem?_eq_some_iff.1 k3).1; exact ⟨hIb s A B k1 hm, (hm.block _ l2 (by omega)).trans k2, (hm.block _ l3 (by omega)).trans k3⟩
  · rintro pre x W ⟨hi, hl, hk⟩ hlen; have hlt : D + 1 < W.heap.size := (Array.getElem?_eq_some_iff.1 hl).1; have hy := run_yield (P := P) (args := encs x) hl (by rw [hlp]; exact hps x); rw [hlp] at hy; refine ⟨fn, _, assign, body, hy, roundIn_of_wpIn hfn (hassign _ x W _ ?_)⟩; clear hy; refine ⟨_, run_beginRound hl (by rw [hlp]), ?_⟩; obtain ⟨X, hX⟩ : ∃ X, W.putObj (D + 1) (.loop { lp .ready none with state := .busy }) = X := ⟨_, rfl⟩; have hlX : X.heap[D + 1]? = some (.loop { lp .ready none with state := .busy }) := (by rw [← hX]; exact World.putObj_heap_same hlt); have hkX : X.heap[D]? = some (.deferred (some [])) := (by rw [← hX]; exact (World.putObj_heap_other (by omega)).trans hk); have hiX : I pre X := (by rw [← hX]; exact hI.putObj _ hi (by omega) hl rfl); have hwX : Kp W X := (by rw [← hX]; exact hKb _ _ _ (by omega)); rw [hX]; refine wpIn_mono (hbody _ pre x X (by omega) ⟨_, hlX⟩ hiX hlen) ?_
    have fin : ∀ (jump : Option Code) (Y : World), KeepsFrom w.heap.size X Y → Y.heap[D + 1]? = some (.loop { lp .ready none with state := .busy }) ∧
        (Instr.endRound (D + 1) jump).run P Y = .ok (.bool jump.isNone) (Y.putObj (D + 1) (.loop (lp (if jump.isNone then .ready else .done) jump))) ∧
        (Y.putObj (D + 1) (.loop (lp (if jump.isNone then .ready else .done) jump))).heap[D + 1]? = some (.loop (lp (if jump.isNone then .ready else .done) jump)) ∧
        (Y.putObj (D + 1) (.loop (lp (if jump.isNone then .ready else .done) jump))).heap[D]? = some (.deferred (some [])) := fun jump Y hY => by
      have hlY := hY.same _ _ (by omega) hlX rfl; have hr := run_endRound (P := P) jump hlY; simp only [hlp] at hr hlY ⊢; exact ⟨hlY, hr, World.putObj_heap_same (Array.getElem?_eq_some_iff.1 hlY).1, (World.putObj_heap_other (by omega)).trans (hY.same _ _ (by omega) hkX rfl)⟩
    rintro e a3 Y hp
    cases e with
    | normal =>
      obtain ⟨hY, hkY, hiY⟩ := hp; obtain ⟨f1, f2, f3, f4⟩ := fin none Y hY; exact ⟨_, _, f2, .inl ⟨rfl, ⟨hI.putObj _ hiY (by omega) f1 rfl, f3, f4⟩, hKt hwX (hKt hkY (hKb _ _ _ (by omega)))⟩⟩
    | ret =>
      obtain ⟨hY, hiY⟩ := hp; obtain ⟨f1, f2, f3, f4⟩ := fin (some .ret) Y hY; exact ⟨_, _, f2, .inr ⟨rfl, .ret, (hIx _).putObj _ hiY (by omega) f1 rfl, f3, f4⟩⟩
    | exit id =>
      obtain ⟨hY, hiY⟩ := hp; obtain ⟨f1, f2, f3, f4⟩ := fin (some (.exit id)) Y hY; exact ⟨_, _, f2, .inr ⟨rfl, .exit id, (hIx _).putObj _ hiY (by omega) f1 rfl, f3, f4⟩⟩
    | goto t =>
      obtain ⟨hY, hiY⟩ := hp; obtain ⟨f1, f2, f3, f4⟩ := fin (some (.goto t)) Y hY; exact ⟨_, _, f2, .inr ⟨rfl, .goto t, (hIx _).putObj _ hiY (by omega) f1 rfl, f3, f4⟩⟩
    | panic ch => exact hp.elim
    | outgrown => exact hp.elim
  · rintro e Y ⟨⟨v, rfl⟩, (⟨xs, hS, hi, hl, hk⟩ | ⟨pre, hSp, c, hi, hl, hk⟩)⟩
    · have hr := run_endLoop (P := P) hl (by rw [hlp]; simp); rw [hlp] at hr; exact ⟨none, _, hr, hdone D xs _ (by omega) hS (hI.putObj _ hi (by omega) hl rfl) ((World.putObj_heap_other (by omega)).trans hk)⟩
    · have hr := run_endLoop (P := P) hl (by rw [hlp]; simp); rw [hlp] at hr; exact ⟨some c, _, hr, hstop D c pre _ (by omega) hSp ((hIx c).putObj _ hi (by omega) hl rfl) ((World.putObj_heap_other (by omega)).trans hk)⟩
end
end Go.Proofs.YtabkpbbjodfolaaGreatDoor
namespace Go.Proofs.YtabkpbbjodfolaaGreatDoor
set_option linter.unusedSimpArgs false
open Go.RowKit
set_option linter.unusedVariables false
def stp (st : Bool) (R : Nat) : Bool := if R = 34 then !st else st
def ixA (s : ByteArray) : Nat → Bool → Nat → Int × Bool
  | 0, st, _ => (-1, st)
  | f + 1, st, pos => if pos < s.size then (if (Utf8.decode s pos).1 = 32 ∧ stp st (Utf8.decode s pos).1 = false then ((pos : Int), stp st (Utf8.decode s pos).1) else ixA s f (stp st (Utf8.decode s pos).1) (pos + (Utf8.decode s pos).2)) else (-1, st)
theorem ixA_end (s : ByteArray) (f : Nat) (st : Bool) (pos : Nat) (h : ¬ pos < s.size) : ixA s f st pos = (-1, st) := by cases f <;> simp [ixA, h]
set_option maxHeartbeats 1600000 in
set_option maxRecDepth 100000 in
theorem ends_any (b : Nat) (st : Bool) (R : Nat) (w : World) (hB : Blk w b 4 #[.bool st]) :
    Calls Tryz.prog 168 #[.int .i32 (R : Int), .pointer (some ⟨b, 0, none⟩)] w fun e w' => e = .returned (.bool (decide (R = 32) && !stp st R)) ∧ Mv b w w' ∧ Blk w' b 4 #[.bool (stp st R)] := by
  have HB : Sl _ := ⟨hB⟩; have c0 : w.cell? ⟨b, 0, none⟩ = some (.bool st) := hB.cell 0; clear hB; go_enter Tryz.func168, Tryz.ntmps168
  by_cases h34 : R = 34
  · subst h34; have hf : w.frozen? ⟨b, 0, none⟩ = false := (HB.out.there 0 1 (by simp) 0 (by simp)).2; go_wp2_with fail; go_ret; refine ⟨by simp [stp], ?_, ?_⟩
    · exact Mv.setCells w b 0 [.bool (!st)]
    · have h := Blk.set_ HB.out 0 (.bool (!st)); simpa [stp] using h
  · have h1 : ((R : Int) == 34) = false := (by simp; omega); have h2 : ¬ ((R : Int) = 34) := (by omega); have hs : stp st R = st := (by unfold stp; rw [if_neg h34]); rw [hs]
    by_cases h32 : R = 32
    · subst h32; clear hs h1 h2 h34; go_wp2_with fail; go_ret; exact ⟨rfl, Mv.refl _ _, HB.out⟩
    · have h3 : ((R : Int) == 32) = false := (by simp; omega); have h4 : ¬ ((R : Int) = 32) := (by omega); have h5 : (decide (R = 32) && !st) = false := (by simp [h32]); rw [h5]; clear hs h34 h32 h5; go_wp2_with fail; go_ret; exact ⟨rfl, Mv.refl _ _, HB.out⟩
set_option maxHeartbeats 3200000 in
set_option maxRecDepth 100000 in
theorem indexFunc_st (b : Nat) (st : Bool) (s : ByteArray) (w : World) (hB : Blk w b 4 #[.bool st]) :
    Calls Tryz.prog 196 #[.string s, .func (.func 168) #[] #[.pointer (some ⟨b, 0, none⟩)], .bool true] w fun e w' => e = .returned (.int .i64 (ixA s s.size st 0).1) ∧ MvP (fun i => i = b) w w' ∧ Blk w' b 4 #[.bool (ixA s s.size st 0).2] := by
  have HB : Sl _ := ⟨hB⟩; have hbl : b < w.heap.size := hB.lt; obtain ⟨RS, hRS⟩ : ∃ RS, ixA s s.size st 0 = RS := ⟨_, rfl⟩; have HRS : Sl (ixA s s.size st 0 = RS) := ⟨hRS⟩; rw [hRS]; clear hB hRS; go_enter Tryz.func196, Tryz.ntmps196; go_wp2_with fail
  go_loopg [] s.size (fun gf wx => ∃ (pos : Nat) (su : Bool), wx.heap[w.heap.size]? = some (.stringIter s pos) ∧ Sl (MvP (fun i => i = b) w wx ∧ Blk wx b 4 #[.bool su] ∧ ixA s gf su pos = RS) ∧ s.size ≤ pos + gf)
  case atStart => exact ⟨0, st, World.iter_heap w s 0, ⟨(MvP.of_below ((Below.refl _ w).alloc (Nat.le_refl _) _)).mono (fun _ e => e.elim), HB.out.below ((Below.refl _ w).alloc (Nat.le_refl _) _) HB.out.lt, HRS.out⟩, by omega⟩
  case round =>
    obtain ⟨pos, su, hit, HX, hfu⟩ := hrel
    by_cases hps : pos < s.size
    · obtain ⟨g', rfl⟩ : ∃ g', gk = g' + 1 := ⟨gk - 1, by omega⟩; have hnx : ∀ ty, (Instr.next (.pointer (some ⟨w.heap.size, 0, none⟩)) true ty).run Tryz.prog wr = _ := fun ty => Lib.run_next_any_at wr w.heap.size s pos ty hit hps
      have hwd := Lib.width_pos s pos; obtain ⟨R, hR⟩ : ∃ R, (Utf8.decode s pos).1 = R := ⟨_, rfl⟩; obtain ⟨K, hK⟩ : ∃ K, (Utf8.decode s pos).2 = K := ⟨_, rfl⟩; have hst := HX.out.2.2; rw [ixA, if_pos hps, hR, hK] at hst; rw [hR, hK] at hnx; rw [hK] at hwd; have hit2 := Lib.iterAt_heap wr w.heap.size s pos (pos + K) hit; have hmv : MvP (fun i => i = b) w (wr.iterAt w.heap.size s (pos + K)) := HX.out.1.trans2 (MvP.of_mv (g := w.heap.size) ⟨rfl, rfl, rfl, by rw [Lib.iterAt_size]; exact Nat.le_refl _, fun i hi hn => Lib.iterAt_other wr w.heap.size i s _ hn⟩) (fun i hi e => by omega); have hbk : Blk (wr.iterAt w.heap.size s (pos + K)) b 4 #[.bool su] := (Lib.iterAt_other wr w.heap.size b s _ (by omega)).trans HX.out.2.1; obtain ⟨W, hWd⟩ : ∃ W, wr.iterAt w.heap.size s (pos + K) = W := ⟨_, rfl⟩; rw [hWd] at hnx hit2 hmv hbk; have HW : Sl _ := ⟨And.intro hmv (And.intro hbk hit2)⟩; have HC : Sl _ := ⟨ends_any b su R W hbk⟩; have HST : Sl _ := ⟨hst⟩; have HN : Sl (1 ≤ K ∧ s.size ≤ pos + (g' + 1)) := ⟨⟨hwd, hfu⟩⟩; obtain ⟨B, hBB⟩ : ∃ B, (decide (R = 32) && !stp su R) = B := ⟨_, rfl⟩; have HBB : Sl _ := ⟨hBB⟩; rw [hBB] at HC; clear hR hK hit2 hmv hbk hWd hst hwd hfu hBB hit
      cases B with
      | true =>
        go_wp2_with ((with_reducible show wpList _ _ _ _ _ _); fail); refine HC.out.mono ?_; rintro e W' ⟨rfl, hm, hb2⟩; have hbb := HBB.out; simp only [Bool.and_eq_true, decide_eq_true_eq, Bool.not_eq_true'] at hbb; have HV : Sl (RS = ((pos : Int), stp su R) ∧ MvP (fun i => i = b) w W' ∧ Blk W' b 4 #[.bool (stp su R)]) := ⟨by rw [← HST.out, if_pos hbb], HW.out.1.trans2 (MvP.of_mv hm) (fun i _ e => e), hb2⟩; clear hm hb2 hbb HC HST HBB hnx; go_wp2_with fail; go_ret; rw [HV.out.1]; exact ⟨rfl, HV.out.2.1, HV.out.2.2⟩
      | false =>
        go_wp2_with ((with_reducible show wpList _ _ _ _ _ _); fail); refine HC.out.mono ?_; rintro e W' ⟨rfl, hm, hb2⟩
        have hbb : ¬ (R = 32 ∧ stp su R = false) := fun e => by
          have := HBB.out; rw [e.2] at this; simp [e.1] at this
        have hlt := (Array.getElem?_eq_some_iff.1 HW.out.2.2).1; have hit3 : W'.heap[w.heap.size]? = some (.stringIter s (pos + K)) := (hm.block _ hlt (by omega)).trans HW.out.2.2; have HIT : Sl _ := ⟨hit3⟩; have HV : Sl (MvP (fun i => i = b) w W' ∧ Blk W' b 4 #[.bool (stp su R)] ∧ ixA s g' (stp su R) (pos + K) = RS) := ⟨HW.out.1.trans2 (MvP.of_mv hm) (fun i _ e => e), hb2, by have h := HST.out; rw [if_neg hbb] at h; exact h⟩; clear hm hb2 hbb HC HST HBB hnx hit3 hlt; go_wp2_with fail
        go_roundg g'
        case measure => omega
        case rel => exact ⟨pos + K, stp su R, HIT.out, HV, by have := HN.out; omega⟩
    · have hnx : ∀ ty, (Instr.next (.pointer (some ⟨w.heap.size, 0, none⟩)) true ty).run Tryz.prog wr = _ := fun ty => Lib.run_next_end_at wr w.heap.size s pos ty hit hps
      have hst := HX.out.2.2; rw [ixA_end s gk su pos hps] at hst; have HST : Sl _ := ⟨hst⟩; clear hst; go_wp2_with fail; go_ret; rw [← HST.out]; exact ⟨rfl, HX.out.1, HX.out.2.1⟩
theorem IndexFunc_st (b : Nat) (st : Bool) (s : ByteArray) (w : World) (hB : Blk w b 4 #[.bool st]) :
    Calls Tryz.prog 170 #[.string s, .func (.func 168) #[] #[.pointer (some ⟨b, 0, none⟩)]] w fun e w' => e = .returned (.int .i64 (ixA s s.size st 0).1) ∧ MvP (fun i => i = b) w w' ∧ Blk w' b 4 #[.bool (ixA s s.size st 0).2] := by
  have HC : Sl _ := ⟨indexFunc_st b st s w hB⟩; obtain ⟨RS, hRS⟩ : ∃ RS, ixA s s.size st 0 = RS := ⟨_, rfl⟩; rw [hRS] at HC ⊢; clear hRS hB; go_enter Tryz.func170, Tryz.ntmps170; go_wp2_with fail; refine HC.out.mono ?_; rintro e w1 ⟨rfl, hm, hb⟩; have HV : Sl _ := ⟨And.intro hm hb⟩; clear hm hb HC; go_wp2_with fail; go_ret; exact ⟨rfl, HV.out.1, HV.out.2⟩
end Go.Proofs.YtabkpbbjodfolaaGreatDoor
namespace Go.Proofs.YtabkpbbjodfolaaGreatDoor
set_option linter.unusedSimpArgs false
open Go.RowKit
set_option linter.unusedVariables false
def ixL : Bool → By → Option Nat × Bool
  | st, [] => (none, st)
  | st, c :: l => if c = 32 ∧ (if c = 34 then !st else st) = false then (some 0, if c = 34 then !st else st) else ((ixL (if c = 34 then !st else st) l).1.map (· + 1), (ixL (if c = 34 then !st else st) l).2)
theorem pcs_ix : ∀ (st : Bool) (l : By), pcs st l = match (ixL st l).1 with
    | none => [l]
    | some k => l.take k :: pcs false (l.drop (k + 1))
  | st, [] => rfl
  | st, c :: l => by
    rw [pcs, ixL]
    by_cases h34 : c = 34
    · subst h34; rw [if_pos rfl, if_neg (fun e => absurd e.1 (by decide)), pcs_ix (!st) l]; simp only [if_true]
      cases (ixL (!st) l).1 with
      | none => rfl
      | some k => simp [consU]
    · rw [if_neg h34]; simp only [if_neg h34]
      by_cases h32 : c = 32 ∧ st = false
      · rw [if_pos h32, if_pos h32, h32.2]; simp
      · rw [if_neg h32, if_neg h32, pcs_ix st l]
        cases (ixL st l).1 with
        | none => rfl
        | some k => simp [consU]
theorem ixL_high : ∀ (u l : By) (st : Bool), (∀ c ∈ u, 128 ≤ c.toNat) → ixL st (u ++ l) = ((ixL st l).1.map (· + u.length), (ixL st l).2)
  | [], l, st, _ => by simp
  | c :: u, l, st, h => by
    have hc := h c List.mem_cons_self; have h1 : c ≠ 34 := fun e => by rw [e] at hc; simp at hc
    have h2 : c ≠ 32 := fun e => by rw [e] at hc; simp at hc
    rw [List.cons_append, ixL, if_neg h1, if_neg (fun e => h2 e.1), ixL_high u l st (fun x hx => h x (List.mem_cons_of_mem _ hx))]; simp [Option.map_map, Function.comp_def, Nat.add_assoc]
theorem get_drop (s : ByteArray) (i : Nat) (h : i < s.size) : s.data.toList.drop i = s.get! i :: s.data.toList.drop (i + 1) := by
  have h2 : i < s.data.toList.length := (by simpa using h); rw [List.drop_eq_getElem_cons h2]; congr 1; show _ = s.data[i]!; rw [getElem!_pos s.data i (by simpa using h)]; simp
theorem dec_cases (s : ByteArray) (pos : Nat) (h : pos < s.size) :
    ((s.get! pos).toNat < 128 ∧ Utf8.decode s pos = ((s.get! pos).toNat, 1)) ∨ (128 ≤ (Utf8.decode s pos).1 ∧ pos + (Utf8.decode s pos).2 ≤ s.size ∧ ∀ j, j < (Utf8.decode s pos).2 → 128 ≤ (s.get! (pos + j)).toNat) := by
  rw [Lib.decode_at]
  by_cases hb : (s.get! pos).toNat < 128
  · left
    refine ⟨hb, ?_⟩; unfold Lib.decodeN; rw [if_pos hb]
  · right
    have one : ∀ j, j < 1 → 128 ≤ (s.get! (pos + j)).toNat := fun j hj => by
      obtain rfl : j = 0 := (by omega); simp only [Nat.add_zero]; omega
    unfold Lib.decodeN; rw [if_neg hb]
    split
    · rename_i hc
      split
      · refine ⟨by simp only; omega, by simp only; omega, fun j hj => ?_⟩; simp only at hj; have : j = 0 ∨ j = 1 := (by omega); rcases this with rfl | rfl
        · exact one 0 (by omega)
        · omega
      · exact ⟨by simp only; omega, by simp only; omega, one⟩
    · split
      · rename_i hc
        split
        · refine ⟨by simp only; omega, by simp only; omega, fun j hj => ?_⟩; simp only at hj; have : j = 0 ∨ j = 1 ∨ j = 2 := (by omega); rcases this with rfl | rfl | rfl
          · exact one 0 (by omega)
          · omega
          · omega
        · exact ⟨by simp only; omega, by simp only; omega, one⟩
      · split
        · rename_i hc
          split
          · refine ⟨by simp only; omega, by simp only; omega, fun j hj => ?_⟩; simp only at hj; have : j = 0 ∨ j = 1 ∨ j = 2 ∨ j = 3 := (by omega); rcases this with rfl | rfl | rfl | rfl
            · exact one 0 (by omega)
            · omega
            · omega
            · omega
          · exact ⟨by simp only; omega, by simp only; omega, one⟩
        · exact ⟨by simp only; omega, by simp only; omega, one⟩
def plc (pos : Nat) : Option Nat → Int
  | none => -1
  | some k => ((pos + k : Nat) : Int)
theorem run_high (s : ByteArray) (pos : Nat) : ∀ K, pos + K ≤ s.size → (∀ j, j < K → 128 ≤ (s.get! (pos + j)).toNat) → ∃ u : By, s.data.toList.drop pos = u ++ s.data.toList.drop (pos + K) ∧ u.length = K ∧ ∀ c ∈ u, 128 ≤ c.toNat
  | 0, _, _ => ⟨[], by simp, rfl, fun c h => by cases h⟩
  | K + 1, hK, h => by
    obtain ⟨u, e, hl, ha⟩ := run_high s pos K (by omega) (fun j hj => h j (by omega)); refine ⟨u ++ [s.get! (pos + K)], ?_, by simp [hl], fun c hc => ?_⟩
    · rw [e, get_drop s (pos + K) (by omega)]; simp [Nat.add_assoc]
    · rcases List.mem_append.1 hc with hc | hc
      · exact ha c hc
      · rw [List.mem_singleton.1 hc]; exact h K (by omega)
theorem ixA_eq (s : ByteArray) : ∀ (f : Nat) (st : Bool) (pos : Nat), s.size ≤ pos + f → ixA s f st pos = (plc pos (ixL st (s.data.toList.drop pos)).1, (ixL st (s.data.toList.drop pos)).2)
  | 0, st, pos, h => by
    have e : s.data.toList.drop pos = [] := List.drop_eq_nil_of_le (by simpa using h); rw [e]; rfl
  | f + 1, st, pos, h => by
    rw [ixA]
    by_cases hp : pos < s.size
    · rw [if_pos hp]; rcases dec_cases s pos hp with ⟨hb, hd⟩ | ⟨hR, hK, hj⟩
      · rw [hd]; simp only []; have hc34 : ((s.get! pos).toNat = 34) ↔ (s.get! pos = 34) := ⟨fun e => UInt8.toNat_inj.1 e, fun e => by rw [e]; rfl⟩; have hc32 : ((s.get! pos).toNat = 32) ↔ (s.get! pos = 32) := ⟨fun e => UInt8.toNat_inj.1 e, fun e => by rw [e]; rfl⟩; have hst : stp st (s.get! pos).toNat = if s.get! pos = 34 then !st else st := (by unfold stp; simp only [hc34])
        rw [get_drop s pos hp, ixL, hst]
        by_cases hh : s.get! pos = 32 ∧ (if s.get! pos = 34 then !st else st) = false
        · rw [if_pos hh, if_pos ⟨hc32.2 hh.1, hh.2⟩]; rfl
        · rw [if_neg hh, if_neg (fun e => hh ⟨hc32.1 e.1, e.2⟩), ixA_eq s f _ (pos + 1) (by omega)]
          cases (ixL (if s.get! pos = 34 then !st else st) (s.data.toList.drop (pos + 1))).1 with
          | none => rfl
          | some k => simp only [Option.map_some, plc]; congr 2; omega
      · obtain ⟨R, hRR⟩ : ∃ R, (Utf8.decode s pos).1 = R := ⟨_, rfl⟩; obtain ⟨K, hKK⟩ : ∃ K, (Utf8.decode s pos).2 = K := ⟨_, rfl⟩; have hwd := Lib.width_pos s pos; rw [hKK] at hwd hK hj ⊢; rw [hRR] at hR ⊢; have h1 : R ≠ 32 := (by omega); have h2 : stp st R = st := (by unfold stp; rw [if_neg (by omega)]); rw [if_neg (fun e => h1 e.1), h2, ixA_eq s f st (pos + K) (by omega)]; obtain ⟨u, e, hl, ha⟩ := run_high s pos K hK hj; rw [e, ixL_high u _ st ha, hl]
        cases (ixL st (s.data.toList.drop (pos + K))).1 with
        | none => rfl
        | some k => simp only [Option.map_some, plc]; congr 2; omega
    · rw [if_neg hp]; have e : s.data.toList.drop pos = [] := List.drop_eq_nil_of_le (by simpa using hp); rw [e]; rfl
end Go.Proofs.YtabkpbbjodfolaaGreatDoor
