/- words.pieces: the iterator, as a contract for a range over it. -/
import Derived.Test.YtabkpbbjodfolaaGreatDoorZvFa
import Derived.Test.YtabkpbbjodfolaaGreatDoorZvN
import Derived.Lib.ReplaceLaws
namespace Go.Proofs.YtabkpbbjodfolaaGreatDoor
set_option linter.unusedSimpArgs false
open Go.RowKit Go.Shelf
set_option linter.unusedVariables false
abbrev Pc := { s : ByteArray // s.size ≤ 4096 }
def pcB (l : List Pc) : List By := l.map fun x => x.1.data.toList
def Kp3 (p q r : Nat) (A B : World) : Prop := ∀ i, i = p ∨ i = q ∨ i = r → B.heap[i]? = A.heap[i]?
theorem Kp3.trans {p q r : Nat} {A B C : World} (h : Kp3 p q r A B) (k : Kp3 p q r B C) : Kp3 p q r A C := fun i hi => (k i hi).trans (h i hi)
theorem Kp3.put {p q r n : Nat} (hp : p < n) (hq : q < n) (hr : r < n) (W : World) (l : Nat) (o : Obj) (hl : n ≤ l) : Kp3 p q r W (W.putObj l o) := fun i hi => World.putObj_heap_other (by rcases hi with rfl | rfl | rfl <;> omega)
theorem cell_of_heap {A B : World} {i : Nat} (h : B.heap[i]? = A.heap[i]?) (off : Nat) : B.cell? ⟨i, off, none⟩ = A.cell? ⟨i, off, none⟩ := by
  unfold World.cell?; simp only [h]
theorem pcs_len : ∀ (st : Bool) (l : By), (pcs st l).length ≤ l.length + 1
  | _, [] => by simp [pcs]
  | st, c :: l => by
    have h : ∀ (u : By) (x : List By), x ≠ [] → (consU u x).length = x.length := fun u x hx => by
      cases x with
      | nil => exact absurd rfl hx
      | cons a b => rfl
    rw [pcs]
    split
    · rw [h _ _ (pcs_ne _ _)]; have := pcs_len (!st) l; simp only [List.length_cons]; omega
    · split
      · have := pcs_len st l; simp only [List.length_cons]; omega
      · rw [h _ _ (pcs_ne _ _)]; have := pcs_len st l; simp only [List.length_cons]; omega
theorem ixL_found : ∀ (st : Bool) (l : By) (k : Nat), (ixL st l).1 = some k → (ixL st l).2 = false ∧ k < l.length
  | st, [], k, h => by simp [ixL] at h
  | st, c :: l, k, h => by
    rw [ixL] at h ⊢; obtain ⟨q, hq⟩ : ∃ q, (if c = 34 then !st else st) = q := ⟨_, rfl⟩; rw [hq] at h ⊢
    by_cases hc : c = 32 ∧ q = false
    · rw [if_pos hc] at h ⊢; injection h with h
      subst h; exact ⟨hc.2, by simp⟩
    · rw [if_neg hc] at h ⊢; obtain ⟨j, h1, rfl⟩ := Option.map_eq_some_iff.1 h; obtain ⟨k1, k2⟩ := ixL_found _ l j h1; exact ⟨k1, by simp; omega⟩
set_option maxHeartbeats 3200000 in
set_option maxRecDepth 100000 in
theorem pieces_in (n : Nat) (hn : 1 ≤ n) (l bl b be : Nat) (line : ByteArray) (hline : line.size ≤ 4096) (J Jx : List Pc → World → Prop)
    (hJb : ∀ s A B, J s A → Mv b A B → J s B)
    (hY : ∀ pre x W, J pre W → pre.length < 5000 → YieldAt Fence.wide (n - 1) Tryz.prog l #[.string x.1] W fun e W' =>
      (e = .returned (.bool true) ∧ J (pre ++ [x]) W' ∧ Kp3 bl b be W W') ∨ (e = .returned (.bool false) ∧ Jx (pre ++ [x]) W'))
    (W : World) (hb1 : be ≠ b) (hb2 : bl ≠ b) (cl : W.cell? ⟨bl, 0, none⟩ = some (.string line)) (ce : W.cell? ⟨be, 0, none⟩ = some (.func (.func 168) #[] #[.pointer (some ⟨b, 0, none⟩)]))
    (hB : Blk W b 4 #[.bool false]) (h0 : J [] W) :
    CallsIn Fence.wide n Tryz.prog 169 #[.func (.yield l) #[] #[], .pointer (some ⟨bl, 0, none⟩), .pointer (some ⟨be, 0, none⟩)] W fun e W' => (∃ v, e = .returned v) ∧
      ((∃ xs, pcB xs = pcs false line.data.toList ∧ J xs W') ∨ (∃ pre, pcB pre <+: pcs false line.data.toList ∧ Jx pre W')) := by
  refine callsIn_of_wp Tryz.func169 rfl trivial ?_ rfl; simp only [Tryz.ntmps169, List.size_toArray, List.length_cons, List.length_nil, Nat.reduceAdd, Nat.reduceSub, Array.replicate_succ, Array.replicate_zero, List.push_toArray, List.append_toArray, List.nil_append, List.cons_append]
  gi_wp2
  gi_loopw [4, 5] (fun r4 r5 wr => ∃ (pre : List Pc) (rest : ByteArray), r4 = .string rest ∧ Sl (pcB pre ++ pcs false rest.data.toList = pcs false line.data.toList ∧ rest.size ≤ 4096 ∧ J pre wr ∧ Blk wr b 4 #[.bool false] ∧ wr.cell? ⟨be, 0, none⟩ = some (.func (.func 168) #[] #[.pointer (some ⟨b, 0, none⟩)])))
    (fun r4 _ _ => match r4 with | .string s => s.size | _ => 0)
  case atStart => exact ⟨[], line, rfl, ⟨rfl, hline, h0, hB, ce⟩⟩
  case round =>
    obtain ⟨pre, rest, rfl, HX⟩ := hrel; have hce := HX.out.2.2.2.2; have hix := IndexFunc_st b false rest wr HX.out.2.2.2.1; rw [ixA_eq rest rest.size false 0 (by omega), List.drop_zero] at hix; have HC : Sl _ := ⟨hix⟩; clear hix; have hpx := pcs_ix false rest.data.toList; have hfd := ixL_found false rest.data.toList; obtain ⟨IX, hIX⟩ : ∃ IX, ixL false rest.data.toList = IX := ⟨_, rfl⟩; rw [hIX] at HC hpx hfd
    have HLEN : Sl (pre.length < 5000) := ⟨by
      have h1 := congrArg List.length HX.out.1; have h2 := pcs_len false line.data.toList; have h3 : line.data.toList.length = line.size := rfl; rw [List.length_append, pcB, List.length_map] at h1; have h4 : 0 < (pcs false rest.data.toList).length := List.length_pos_iff.2 (pcs_ne _ _)
      omega⟩
    obtain ⟨o, st'⟩ := IX; clear hIX
    cases o with
    | none =>
      simp only [plc] at HC; simp only [] at hpx; have HPX : Sl _ := ⟨hpx⟩; clear hpx hfd
      gi_wp2
      refine ⟨trivial, ?_⟩; refine (callsIn_wide.2 HC.out).mono ?_; rintro e w2 ⟨rfl, hm, hb2⟩; have HV : Sl (J pre w2) := ⟨hJb pre wr w2 HX.out.2.2.1 ⟨hm.os, hm.tape, hm.output, hm.size, hm.block⟩⟩; clear hm hb2 HC; obtain ⟨fn, tmps, assign, body, hy, hR⟩ := hY pre ⟨rest, HX.out.2.1⟩ w2 HV.out HLEN.out; dsimp only at hy
      have HPC : Sl (pcB (pre ++ [⟨rest, HX.out.2.1⟩]) = pcs false line.data.toList) := ⟨by
        have h := HX.out.1; rw [HPX.out] at h; refine Eq.trans ?_ h
        simp [pcB]⟩
      gi_wp2
      refine hR.mono ?_; rintro e W3 (⟨rfl, hJ3, hk3⟩ | ⟨rfl, hJx3⟩)
      · gi_wp2
        refine bodyPost_ret (results_none rfl _ _ _) rfl ?_; exact ⟨⟨_, rfl⟩, .inl ⟨_, HPC.out, hJ3⟩⟩
      · gi_wp2
        refine bodyPost_ret (results_none rfl _ _ _) rfl ?_; exact ⟨⟨_, rfl⟩, .inr ⟨_, by rw [HPC.out]; exact List.prefix_rfl, hJx3⟩⟩
    | some k =>
      obtain ⟨hst, hkl⟩ := hfd k rfl; simp only [] at hst hpx; subst hst; have hkl : k < rest.size := hkl; have e0 : plc 0 (some k) = (k : Int) := (by simp [plc]); simp only [e0] at HC; have HPX : Sl _ := ⟨hpx⟩; have hle : rest.size ≤ 4096 := HX.out.2.1; have hneg : decide ((k : Int) < 0) = false := decide_eq_false (by omega); obtain ⟨p1, hp1⟩ : ∃ p1, rest.extract 0 k = p1 := ⟨_, rfl⟩; obtain ⟨p2, hp2⟩ : ∃ p2, rest.extract (k + 1) rest.size = p2 := ⟨_, rfl⟩; have HP1 : Sl (p1.data.toList = rest.data.toList.take k) := ⟨by rw [← hp1, Lib.extract_data]; simp⟩
      have HP2 : Sl (p2.data.toList = rest.data.toList.drop (k + 1) ∧ p2.size = rest.size - (k + 1)) := ⟨by
        have h : p2.data.toList = rest.data.toList.drop (k + 1) := by
          rw [← hp2, Lib.extract_data, List.take_of_length_le]; rw [List.length_drop]; exact Nat.le_refl _
        refine ⟨h, ?_⟩; have h2 := congrArg List.length h; rw [List.length_drop] at h2
        exact h2⟩
      have HS1 : Sl (p1.size ≤ 4096) := ⟨by
        have h2 := congrArg List.length HP1.out; rw [List.length_take] at h2; have h3 : p1.data.toList.length = p1.size := rfl; have h4 : rest.data.toList.length = rest.size := rfl
        omega⟩
      clear hpx hfd e0
      gi_wp2
      refine ⟨trivial, ?_⟩; refine (callsIn_wide.2 HC.out).mono ?_; rintro e w2 ⟨rfl, hm, hb2⟩
      have HV : Sl (J pre w2 ∧ Blk w2 b 4 #[.bool false] ∧ w2.cell? ⟨be, 0, none⟩ = some (.func (.func 168) #[] #[.pointer (some ⟨b, 0, none⟩)])) := ⟨hJb pre wr w2 HX.out.2.2.1 ⟨hm.os, hm.tape, hm.output, hm.size, hm.block⟩, hb2, by
        have hlt := World.block_lt_of_cell? _ _ hce
        exact (cell_of_heap (hm.block be hlt hb1) 0).trans hce⟩
      clear hm hb2 HC; obtain ⟨fn, tmps, assign, body, hy, hR⟩ := hY pre ⟨p1, HS1.out⟩ w2 HV.out.1 HLEN.out; dsimp only at hy
      have HPC : Sl (pcB (pre ++ [⟨p1, HS1.out⟩]) ++ pcs false p2.data.toList = pcs false line.data.toList) := ⟨by
        have h := HX.out.1; rw [HPX.out, ← HP2.out.1, ← HP1.out] at h; refine Eq.trans ?_ h
        simp [pcB]⟩
      gi_wp2
      refine hR.mono ?_; rintro e W3 (⟨rfl, hJ3, hk3⟩ | ⟨rfl, hJx3⟩)
      · have HR2 : Sl (J (pre ++ [⟨p1, HS1.out⟩]) W3 ∧ Blk W3 b 4 #[.bool false] ∧ W3.cell? ⟨be, 0, none⟩ = some (.func (.func 168) #[] #[.pointer (some ⟨b, 0, none⟩)])) := ⟨hJ3, (hk3 b (.inr (.inl rfl))).trans HV.out.2.1, (cell_of_heap (hk3 be (.inr (.inr rfl))) 0).trans HV.out.2.2⟩; have hk2 : k + 1 ≤ rest.size := (by omega); have hk3' : (k : Int) ≤ 4096 := (by omega); have hk4 : (0 : Int) ≤ (k : Int) := (by omega); clear hJ3 hk3 hR hy
        gi_wp2
        exact ⟨⟨_, p2, rfl, ⟨HPC.out, by have := HP2.out.2; omega, HR2.out.1, HR2.out.2.1, HR2.out.2.2⟩⟩, by have := HP2.out.2; show p2.size < rest.size; omega⟩
      · gi_wp2
        refine bodyPost_ret (results_none rfl _ _ _) rfl ?_; exact ⟨⟨_, rfl⟩, .inr ⟨_, ⟨_, HPC.out⟩, hJx3⟩⟩
theorem pieces_st (n : Nat) (hn : 1 ≤ n) (bl b be : Nat) (line : ByteArray) (hline : line.size ≤ 4096) (w : World) (hb1 : be ≠ b) (hb2 : bl ≠ b) (hl : bl < w.heap.size ∧ b < w.heap.size ∧ be < w.heap.size)
    (cl : w.cell? ⟨bl, 0, none⟩ = some (.string line)) (ce : w.cell? ⟨be, 0, none⟩ = some (.func (.func 168) #[] #[.pointer (some ⟨b, 0, none⟩)])) (hB : Blk w b 4 #[.bool false]) :
    SeqSt Fence.wide n Tryz.prog 169 #[.pointer (some ⟨bl, 0, none⟩), .pointer (some ⟨be, 0, none⟩)] (fun x : Pc => #[.string x.1]) b (Kp3 bl b be)
      (fun xs => pcB xs = pcs false line.data.toList) (fun pre => pcB pre <+: pcs false line.data.toList) 5000 w := fun l J Jx W hW _ hJb hY h0 =>
  pieces_in n hn l bl b be line hline J Jx hJb hY W hb1 hb2 ((hW.cell (p := ⟨bl, 0, none⟩) hl.1).trans cl) ((hW.cell (p := ⟨be, 0, none⟩) hl.2.2).trans ce) ((hW.block b hl.2.1).trans hB) h0
end Go.Proofs.YtabkpbbjodfolaaGreatDoor
namespace Go.Proofs.YtabkpbbjodfolaaGreatDoor
set_option linter.unusedSimpArgs false
open Go.RowKit
set_option linter.unusedVariables false
theorem run_store_func {P : Program} {w : World} {a : Addr} {m : Mode} (f : Fn) (t l : Array Value) : (store a (.func f t l) m).run P w = stored P w a (.func f t l) m := run_store P w a _ m rfl
attribute [local go_sem] run_store_func
theorem pieces_any (line : ByteArray) (w : World) : Calls Tryz.prog 127 #[.string line] w fun e w' =>
    e = .returned (.func (.func 169) #[] #[.pointer (some ⟨w.heap.size, 0, none⟩), .pointer (some ⟨w.heap.size + 2, 0, none⟩)]) ∧ Below w.heap.size w w' ∧ w'.heap.size = w.heap.size + 3 ∧
    w'.cell? ⟨w.heap.size, 0, none⟩ = some (.string line) ∧ w'.cell? ⟨w.heap.size + 2, 0, none⟩ = some (.func (.func 168) #[] #[.pointer (some ⟨w.heap.size + 1, 0, none⟩)]) ∧ Blk w' (w.heap.size + 1) 4 #[.bool false] := by
  have hB := Blk.new ((w.alloc (.cells #[.string line] 9)).alloc (.cells #[.bool false] 4)) 234 #[.nilFunc]; rw [World.size_alloc, World.size_alloc] at hB; have hc := hB.cell 0; have hf := hB.frozen 0; have HB : Sl _ := ⟨hB⟩; clear hB; go_enter Tryz.func127, Tryz.ntmps127; go_wp2_with fail; go_ret; obtain ⟨A, hA⟩ : ∃ A, w.alloc (.cells #[.string line] 9) = A := ⟨_, rfl⟩; have a1 : Below w.heap.size w A := (by rw [← hA]; exact (Below.refl _ _).alloc (Nat.le_refl _) _); have a2 : A.heap.size = w.heap.size + 1 := (by rw [← hA, World.size_alloc]); have a3 : Blk A w.heap.size 9 #[.string line] := (by rw [← hA]; exact Blk.new w _ _); rw [hA]; obtain ⟨B, hB'⟩ : ∃ B, A.alloc (.cells #[.bool false] 4) = B := ⟨_, rfl⟩; have b1 : Below A.heap.size A B := (by rw [← hB']; exact (Below.refl _ _).alloc (Nat.le_refl _) _); have b2 : B.heap.size = w.heap.size + 2 := (by rw [← hB', World.size_alloc, a2]); have b3 : Blk B (w.heap.size + 1) 4 #[.bool false] := (by rw [← hB', ← a2]; exact Blk.new A _ _); rw [hB']; obtain ⟨C, hC⟩ : ∃ C, B.alloc (.cells #[.func (.func 168) #[] #[.pointer (some ⟨w.heap.size + 1, 0, none⟩)]] 234) = C := ⟨_, rfl⟩; have c1 : Below B.heap.size B C := (by rw [← hC]; exact (Below.refl _ _).alloc (Nat.le_refl _) _); have c2 : C.heap.size = w.heap.size + 3 := (by rw [← hC, World.size_alloc, b2]); have c3 : Blk C (w.heap.size + 2) 234 #[.func (.func 168) #[] #[.pointer (some ⟨w.heap.size + 1, 0, none⟩)]] := (by rw [← hC, ← b2]; exact Blk.new B _ _); rw [hC]; refine ⟨rfl, (a1.trans (b1.mono (by omega))).trans (c1.mono (by omega)), c2, ?_, c3.cell 0, b3.below c1 (by omega)⟩; exact ((a3.below b1 (by omega)).below c1 (by omega)).cell 0
end Go.Proofs.YtabkpbbjodfolaaGreatDoor
namespace Go.Proofs.YtabkpbbjodfolaaGreatDoor
set_option linter.unusedSimpArgs false
set_option linter.unusedVariables false
theorem splitB1 {b : UInt8} {t : By} (h : b ∈ t) : ∃ p r, t = p ++ b :: r ∧ b ∉ p := by
  have hc := List.takeWhile_append_dropWhile (p := fun x => decide (x ≠ b)) (l := t)
  have hn : b ∉ t.takeWhile (· ≠ b) := fun hm => by
    have := List.all_takeWhile (p := fun x => decide (x ≠ b)) (l := t); rw [List.all_eq_true] at this; simpa using this b hm
  cases hd : t.dropWhile (· ≠ b) with
  | nil =>
    rw [hd, List.append_nil] at hc; rw [hc] at hn; exact absurd h hn
  | cons d r =>
    have := List.head?_dropWhile_not (p := fun x => decide (x ≠ b)) (l := t); rw [hd] at this; simp at this; rw [hd, this] at hc; exact ⟨_, r, hc.symm, hn⟩
theorem index_b (b : UInt8) : ∀ (p x : By), b ∉ p → Lib.index (p ++ b :: x) [b] = p.length
  | [], x, _ => by
    rw [List.nil_append, Lib.index, if_pos]
    · rfl
    · simp
  | c :: p, x, h => by
    simp only [List.mem_cons, not_or] at h; have ih := index_b b p x h.2
    have hf : ¬ ([b].isPrefixOf (c :: (p ++ b :: x)) = true) := by
      rw [List.isPrefixOf_cons_cons]; intro e; rw [Bool.and_eq_true, beq_iff_eq] at e; exact h.1 e.1
    rw [List.cons_append, Lib.index, if_neg hf, ih]; rw [if_neg]
    · simp
    · intro e; rw [beq_iff_eq] at e; omega
theorem index_bno (b : UInt8) : ∀ p : By, b ∉ p → Lib.index p [b] = -1
  | [], _ => rfl
  | c :: p, h => by
    simp only [List.mem_cons, not_or] at h
    have hf : ¬ ([b].isPrefixOf (c :: p) = true) := by
      rw [List.isPrefixOf_cons_cons]; intro e; rw [Bool.and_eq_true, beq_iff_eq] at e; exact h.1 e.1
    rw [Lib.index, if_neg hf, index_bno b p h.2]; rfl
theorem split_lines : ∀ (n : Nat) (t : By), t.length < n → Lib.splitK [10] 0 (Lib.count t [10]) t = splL (t ++ [10])
  | 0, t, h => absurd h (Nat.not_lt_zero _)
  | n + 1, t, h => by
    by_cases hm : (10 : UInt8) ∈ t
    · obtain ⟨p, r, rfl, hp⟩ := splitB1 hm; have hi := index_b 10 p r hp; have hd' : (p ++ 10 :: r).drop (p.length + [(10 : UInt8)].length) = r := (by simp [List.drop_append]); rw [Lib.count_hit (by simp) hi, Nat.add_comm, Lib.splitK, if_neg (by rw [beq_iff_eq]; omega), hi]; have e : (((p.length : Nat) : Int)).toNat = p.length := (by omega); rw [e, hd', split_lines n r (by simp at h; omega), List.append_assoc, List.cons_append, splL_app p _ hp]; simp
    · rw [Lib.count_miss (index_bno 10 t hm), Lib.splitK, splL_app t [] hm]; rfl
theorem split_dropLast {t : By} (h : t.getLast? = some 10) : Lib.split t.dropLast [10] = splL t := by
  have hne : t ≠ [] := (by intro e; rw [e] at h; cases h)
  have e : t = t.dropLast ++ [10] := by
    have h2 := List.dropLast_concat_getLast hne; rw [List.getLast?_eq_some_getLast hne] at h; injection h with h
    rw [h] at h2; exact h2.symm
  unfold Lib.split; rw [split_lines _ _ (Nat.lt_succ_self _), ← e]
end Go.Proofs.YtabkpbbjodfolaaGreatDoor
