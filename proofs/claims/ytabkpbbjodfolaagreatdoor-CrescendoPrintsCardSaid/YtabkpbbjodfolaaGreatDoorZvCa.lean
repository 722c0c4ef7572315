/- The statements' SameInts, Same, groups, at equal lists. -/
import Derived.Test.YtabkpbbjodfolaaGreatDoorZvZ
import Derived.Test.YtabkpbbjodfolaaGreatDoorZvBa
namespace Go.Proofs.YtabkpbbjodfolaaGreatDoor
set_option linter.unusedSimpArgs false
open Go.RowKit
set_option linter.unusedVariables false
set_option maxHeartbeats 3200000 in
set_option maxRecDepth 100000 in
theorem sameI_any (A B : Option Addr) (n c d : Nat) (l : List Int) (w : World) (h1 : II w A n l) (h2 : II w B n l) (hn : n ≤ 1000000) :
    Calls Tryz.prog 63 #[.slice A n c, .slice B n d] w fun e w' => e = .returned (.bool true) ∧ Below w.heap.size w w' := by
  have H1 : Sl _ := ⟨h1⟩; have H2 : Sl _ := ⟨h2⟩; have HB : Sl _ := ⟨Below.refl w.heap.size w⟩; have hne : ((n : Int) != (n : Int)) = false := (by simp); clear h1 h2; go_enter Tryz.func63, Tryz.ntmps63; go_wp2_with fail
  go_loopw [5] (fun s5 wv => ∃ k : Nat, k ≤ n ∧ s5 = .int .i64 k ∧ Sl (Below w.heap.size w wv)) (fun s5 _ => n - (RowKit.intOf s5).toNat)
  case atStart => exact ⟨0, Nat.zero_le _, rfl, HB⟩
  case round =>
    clear HB; obtain ⟨k, hk, rfl, HB⟩ := hrel
    by_cases hkn : k < n
    · have hkI : decide ((k : Int) < (n : Int)) = true := decide_eq_true (by omega); have hkI2 : (k : Int) < (n : Int) := (by omega); obtain ⟨a1, e1, hb1, c1⟩ := (H1.out.below HB.out).cell (j := k) hkn; obtain ⟨a2, e2, hb2, c2⟩ := (H2.out.below HB.out).cell (j := k) hkn; rw [e1, e2]; clear e1 e2; obtain ⟨z, hz⟩ : ∃ z, gt l k = z := ⟨_, rfl⟩; rw [hz] at c1 c2; have hzz : (z != z) = false := (by simp); go_wp2_with fail
      go_quiet (fail)
      go_wp2_with fail; exact ⟨⟨k + 1, by omega, by go_num, ⟨below_drewN HB.out _⟩⟩, by simp [RowKit.intOf]; omega⟩
    · obtain rfl : k = n := (by omega); go_wp2_with fail; go_ret; exact ⟨rfl, HB.out⟩
structure GG (w : World) (A : Option Addr) (n : Nat) (L : List SlV) : Prop where
  len : L.length = n
  rd : Reads w w.heap.size 1 A n (L.map SlV.val)
  all : ∀ s ∈ L, II w s.A s.n s.l
theorem GG.below {w w' : World} {A : Option Addr} {n : Nat} {L : List SlV} (h : GG w A n L) (hb : Below w.heap.size w w') : GG w' A n L := ⟨h.len, (h.rd.below hb).more hb.size, fun s hs => (h.all s hs).below hb⟩
theorem GG.cell {w : World} {A : Option Addr} {n : Nat} {L : List SlV} (h : GG w A n L) {j : Nat} (hj : j < n) : ∃ ad s, A = some ad ∧ ad.block < w.heap.size ∧ L[j]? = some s ∧ w.cell? (ad.add j) = some s.val ∧ II w s.A s.n s.l := by
  have hl := h.len; obtain ⟨ad, e, hb, hc⟩ := h.rd.2 (by omega); refine ⟨ad, L[j], e, hb, List.getElem?_eq_getElem (by omega), hc j _ ?_, h.all _ (List.getElem_mem _)⟩; rw [List.getElem?_map, List.getElem?_eq_getElem (by omega)]; rfl
theorem GG.of_og {w : World} {base : Nat} {A : Option Addr} {n c : Nat} {L : List SlV} (h : OG w base A n c L) : GG w A n L := ⟨h.len, Reads.of_own h.row, fun s hs => (h.all s hs).ii⟩
theorem GG.of_blk {w : World} {g n : Nat} {t : TypeId} {cs : Array Value} {L : List SlV} (h : Blk w g t cs) (hl : L.length = n) (hc : cs.toList = L.map SlV.val) (ha : ∀ s ∈ L, II w s.A s.n s.l) : GG w (some ⟨g, 0, none⟩) n L := by
  refine ⟨hl, ⟨by rw [List.length_map, hl, Nat.mul_one], fun _ => ⟨_, rfl, h.lt, fun j u hu => ?_⟩⟩, ha⟩; rw [← hc] at hu; rw [show (⟨g, 0, none⟩ : Addr).add j = ⟨g, j, none⟩ by unfold Addr.add; split <;> simp_all]; have := h.cell j; rw [this, ← Array.getElem?_toList]; exact hu
set_option maxHeartbeats 3200000 in
set_option maxRecDepth 100000 in
theorem groups_any (A B : Option Addr) (n c d : Nat) (L M : List SlV) (w : World) (h1 : GG w A n L) (h2 : GG w B n M) (hn : n ≤ 1000000) (he : L.map SlV.l = M.map SlV.l) (hL : ∀ s ∈ L, s.n ≤ 1000000) :
    Calls Tryz.prog 21 #[.slice A n c, .slice B n d] w fun e w' => e = .returned (.bool true) ∧ Below w.heap.size w w' := by
  have H1 : Sl _ := ⟨h1⟩; have H2 : Sl _ := ⟨h2⟩; have HE : Sl _ := ⟨he⟩; have HL : Sl _ := ⟨hL⟩; have HB : Sl _ := ⟨Below.refl w.heap.size w⟩; have hne : ((n : Int) != (n : Int)) = false := (by simp); clear h1 h2 he hL; go_enter Tryz.func21, Tryz.ntmps21; go_wp2_with fail
  go_loopw [5] (fun s5 wv => ∃ k : Nat, k ≤ n ∧ s5 = .int .i64 k ∧ Sl (Below w.heap.size w wv)) (fun s5 _ => n - (RowKit.intOf s5).toNat)
  case atStart => exact ⟨0, Nat.zero_le _, rfl, HB⟩
  case round =>
    clear HB; obtain ⟨k, hk, rfl, HB⟩ := hrel
    by_cases hkn : k < n
    · have hkI : decide ((k : Int) < (n : Int)) = true := decide_eq_true (by omega); have hkI2 : (k : Int) < (n : Int) := (by omega); have hk0 : (0 : Int) ≤ (k : Int) := (by omega); obtain ⟨a1, x, e1, hb1, hx, c1, i1⟩ := (H1.out.below HB.out).cell (j := k) hkn; obtain ⟨a2, y, e2, hb2, hy, c2, i2⟩ := (H2.out.below HB.out).cell (j := k) hkn
      have hxy : y.l = x.l := by
        have := congrArg (fun l => l[k]?) HE.out; simp only [List.getElem?_map, hx, hy, Option.map_some, Option.some.injEq] at this; exact this.symm
      have hnn : y.n = x.n := (by rw [← i1.1, ← i2.1, hxy]); rw [hxy, hnn] at i2; have HX : Sl (∀ W, Below wr.heap.size wr W → Calls Tryz.prog 63 #[.slice x.A x.n x.c, .slice y.A x.n y.c] W fun e w' => e = .returned (.bool true) ∧ Below W.heap.size W w') := ⟨fun W hW => sameI_any x.A y.A x.n x.c y.c x.l W (i1.below hW) (i2.below hW) (HL.out x (List.mem_of_getElem? hx))⟩; have HC1 : Sl (∀ W, Below wr.heap.size wr W → W.cell? (a1.add k) = some (.slice x.A x.n x.c)) := ⟨fun W hW => (hW.cell (by rw [block_of_add]; exact hb1)).trans c1⟩; have HC2 : Sl (∀ W, Below wr.heap.size wr W → W.cell? (a2.add k) = some (.slice y.A x.n y.c)) := ⟨fun W hW => by rw [← hnn]; exact (hW.cell (by rw [block_of_add]; exact hb2)).trans c2⟩; rw [e1, e2]; clear e1 e2 c1 c2 i1 i2 hx hy hxy hnn; have hS0 : Below wr.heap.size wr wr.drew := below_drewN (Below.refl _ _) 1; have hSR := hS0; go_wp2_with fail; have hm := hS0; refine wp_region_held_drew (S := fun w' => Below wr.heap.size wr w') (by kernel_rfl) hm (fun hHeld => ?_); clear hm; refine wpAnyH_pure 0 (v := .slice (some a1) n c) rfl (by kernel_rfl) (by kernel_rfl) (by kernel_rfl) (fun _ _ _ h => h) rfl (fun _ => rfl) (by assumption) ?_; simp only [Act.put, sS0, sS1, sS2]; refine wpAnyH_pure 1 (v := .int .i64 (k : Int)) rfl (by kernel_rfl) (by kernel_rfl) (by kernel_rfl) (fun _ _ _ h => h) rfl (fun _ => rfl) (by assumption) ?_; simp only [Act.put, sS0, sS1, sS2]; refine wpAnyH_pure 2 (v := .pointer (some (a1.add k))) rfl (by kernel_rfl) (by kernel_rfl) (by kernel_rfl) (fun _ _ _ h => h) rfl (fun _ => by go_simp) (by assumption) ?_; simp only [Act.put, sS0, sS1, sS2]
      refine wpAnyH_cell 3 (v := .slice x.A x.n x.c) rfl rfl (fun w' h => by
        have hc := HC1.out w' h
        go_simp) (by kernel_rfl) (by kernel_rfl) (by kernel_rfl) (fun _ _ _ h => h) (by assumption) ?_
      simp only [Act.put, sS0, sS1, sS2]; refine wpAnyH_pure 4 (v := .slice (some a2) n d) rfl (by kernel_rfl) (by kernel_rfl) (by kernel_rfl) (fun _ _ _ h => h) rfl (fun _ => rfl) (by assumption) ?_; simp only [Act.put, sS0, sS1, sS2]; refine wpAnyH_pure 5 (v := .int .i64 (k : Int)) rfl (by kernel_rfl) (by kernel_rfl) (by kernel_rfl) (fun _ _ _ h => h) rfl (fun _ => rfl) (by assumption) ?_; simp only [Act.put, sS0, sS1, sS2]; refine wpAnyH_pure 6 (v := .pointer (some (a2.add k))) rfl (by kernel_rfl) (by kernel_rfl) (by kernel_rfl) (fun _ _ _ h => h) rfl (fun _ => by go_simp) (by assumption) ?_; simp only [Act.put, sS0, sS1, sS2]
      refine wpAnyH_cell 7 (v := .slice y.A x.n y.c) rfl rfl (fun w' h => by
        have hc := HC2.out w' h
        go_simp) (by kernel_rfl) (by kernel_rfl) (by kernel_rfl) (fun _ _ _ h => h) (by assumption) ?_
      simp only [Act.put, sS0, sS1, sS2]; refine wpAnyH_one 8 rfl (by kernel_rfl) rfl (fun K hK => ?_); go_simp; go_at_call 63
      (with_reducible refine (HX.out _ hSR).mono ?_)
      rintro e w6 ⟨rfl, hb⟩; have hW6 : Below wr.heap.size wr w6 := hSR.trans (hb.mono hSR.size); refine hK.out _ _ hW6 (fun hHeld => ?_); clear hK K
      (try simp only [Act.put, sS0, sS1, sS2])
      refine wpAnyH_pure 9 (v := .bool false) rfl (by kernel_rfl) (by kernel_rfl) (by kernel_rfl) (fun _ _ _ h => h) rfl (fun _ => by go_simp) (by assumption) ?_; simp only [Act.put, sS0, sS1, sS2]; refine wpAnyH_done (by kernel_rfl) ?_ _; go_wp2_with fail; exact ⟨⟨k + 1, by omega, by go_num, ⟨HB.out.trans (hW6.mono HB.out.size)⟩⟩, by simp [RowKit.intOf]; omega⟩
    · obtain rfl : k = n := (by omega); go_wp2_with fail; go_ret; exact ⟨rfl, HB.out⟩
set_option maxHeartbeats 3200000 in
set_option maxRecDepth 100000 in
theorem sameR_any (r s : RgV) (w : World) (hr : RgM w r) (hs : RgM w s) (h1 : s.l = r.l) (h2 : s.k = r.k) (hn : r.n ≤ 1000000) (hm : r.m ≤ 1000000) :
    Calls Tryz.prog 23 #[.agg #[.slice r.A r.n r.c, .slice r.B r.m r.d], .agg #[.slice s.A s.n s.c, .slice s.B s.m s.d]] w fun e w' => e = .returned (.bool true) ∧ Below w.heap.size w w' := by
  have e1 : s.n = r.n := (by rw [← hs.s.1, ← hr.s.1, h1]); have e2 : s.m = r.m := (by rw [← hs.c.1, ← hr.c.1, h2]); have i1 := hs.s; have i2 := hs.c; rw [e1, h1] at i1; rw [e2, h2] at i2; rw [e1, e2]; have H1 : Sl _ := ⟨fun W (hW : Below w.heap.size w W) => sameI_any r.A s.A r.n r.c s.c r.l W (hr.s.below hW) (i1.below hW) hn⟩; have H2 : Sl _ := ⟨fun W (hW : Below w.heap.size w W) => sameI_any r.B s.B r.m r.d s.d r.k W (hr.c.below hW) (i2.below hW) hm⟩; have HD : Sl (Lg w w []) := ⟨Lg.nil w⟩; clear e1 e2 i1 i2 h1 h2 hr hs; go_enter Tryz.func23, Tryz.ntmps23
  go_upto_region 1 with ((with_reducible show wpList _ _ _ _ _ _); first
    | (refine wpList_box_new 2 rfl rfl 45 (.tmp 0) rfl #[.slice r.A r.n r.c, .slice r.B r.m r.d] rfl (fun _ => by kernel_rfl) ?_; rintro w1 g1 zg zm zs zb; replace HD : Sl _ := ⟨HD.out.new zg zm zb⟩; clear zg zm zs zb)
    | (refine wpList_box_new 3 rfl rfl 45 (.tmp 1) rfl #[.slice s.A r.n s.c, .slice s.B r.m s.d] rfl (fun _ => by kernel_rfl) ?_; rintro w2 g2 zg zm zs zb; replace HD : Sl _ := ⟨HD.out.new zg zm zb⟩; clear zg zm zs zb))
  have s0 := (HD.out.at_ 1 rfl).cell 0; have s1 := (HD.out.at_ 1 rfl).cell 1; have t0 := (HD.out.at_ 0 rfl).cell 0; have t1 := (HD.out.at_ 0 rfl).cell 1; simp at s0 s1 t0 t1; go_wp2_with fail; refine (H1.out _ HD.out.bl).mono ?_; rintro e w3 ⟨rfl, hb⟩; replace HD : Sl _ := ⟨HD.out.below hb⟩; clear hb s0 s1 t0 t1; have s1 := (HD.out.at_ 1 rfl).cell 1; have t1 := (HD.out.at_ 0 rfl).cell 1; simp at s1 t1; go_wp2_with fail; refine (H2.out _ HD.out.bl).mono ?_; rintro e w4 ⟨rfl, hb⟩; replace HD : Sl _ := ⟨HD.out.below hb⟩; go_wp2_with fail; go_ret; exact ⟨rfl, HD.out.bl⟩
end Go.Proofs.YtabkpbbjodfolaaGreatDoor
namespace Go.Proofs.YtabkpbbjodfolaaGreatDoor
set_option linter.unusedSimpArgs false
open Go.RowKit
set_option linter.unusedVariables false
section
variable {P : Program} {ops : Array Oper} {Q : Exit → Act → World → Prop} {md : Region.Mode} {S : World → Prop}
theorem wpAnyH_threem (i j k : Nat) {oi oj ok : Oper} {fuel : Nat} {listed : Array Bool} {a : Act} {w : World} (hi0 : ops.toList[i]? = some oi) (hj0 : ops.toList[j]? = some oj) (hk0 : ops.toList[k]? = some ok) (hr : Region.ready md ops listed = [i, j, k]) (hgi : oi.guard = none) (hgj : oj.guard = none) (hgk : ok.guard = none)
    (h1 : ∀ K' : Act → World → Prop, Shut (∀ a w, S w → (S w → wpAnyH P md ops Q S fuel (listed.setIfInBounds i true) a w) → K' a w) → Oper.wp P oi a w K' Q)
    (h2 : ∀ K' : Act → World → Prop, Shut (∀ a w, S w → (S w → wpAnyH P md ops Q S fuel (listed.setIfInBounds j true) a w) → K' a w) → Oper.wp P oj a w K' Q)
    (h3 : ∀ K' : Act → World → Prop, Shut (∀ a w, S w → (S w → wpAnyH P md ops Q S fuel (listed.setIfInBounds k true) a w) → K' a w) → Oper.wp P ok a w K' Q) : wpAnyH P md ops Q S (fuel + 1) listed a w :=
  have hi : ops[i]? = some oi := (by rw [← Array.getElem?_toList]; exact hi0); have hj : ops[j]? = some oj := (by rw [← Array.getElem?_toList]; exact hj0); have hk : ops[k]? = some ok := (by rw [← Array.getElem?_toList]; exact hk0)
  wpAnyH_ready hr (by simp) (AllReadyH.cons hi (fun K' hK => by
    have hw : Region.wanted oi (yielded ops a.tmps) = true := (by simp [Region.wanted, hgi]); rw [if_pos hw]
    exact h1 K' hK) (AllReadyH.cons hj (fun K' hK => by
    have hw : Region.wanted oj (yielded ops a.tmps) = true := (by simp [Region.wanted, hgj]); rw [if_pos hw]
    exact h2 K' hK) (AllReadyH.cons hk (fun K' hK => by
    have hw : Region.wanted ok (yielded ops a.tmps) = true := (by simp [Region.wanted, hgk]); rw [if_pos hw]
    exact h3 K' hK) AllReadyH.nil)))
end
theorem wp_newblk {P : Program} {Q : Exit → Act → World → Prop} {op : Oper} {a : Act} {w : World} {K : Act → World → Prop} (mk : Nat → Value) (ty : TypeId) (cells : Array Value)
    (hr : ∀ w : World, (execOp a.eval op).run P w = .ok (.value (mk w.heap.size)) (w.alloc (.cells cells ty)))
    (h : ∀ w' g, g = w.heap.size → Mv w.heap.size w w' → Below w.heap.size w w' → Blk w' g ty cells → K (a.put op.dst (mk g)) w') : Oper.wp P op a w K Q := by
  unfold Oper.wp; rw [hr w, Oper.upon_value]; exact h _ _ rfl (Mv.of_below ((Below.refl _ _).alloc (Nat.le_refl _) _)) ((Below.refl _ _).alloc (Nat.le_refl _) _) (Blk.new w ty cells)
section
variable (A1 A2 A3 A4 P1 P2 P3 a b c d e f : Option Addr)
theorem shE1 : atE (exO A1 A2 A3 A4 P1 P2 P3) (tbL a b c d) ⟨e, 1, 1, [1], none, 0, 0, []⟩ 2 = 0 := by kernel_rfl
theorem shL1 : atL (exO A1 A2 A3 A4 P1 P2 P3) (tbL a b c d) ⟨e, 1, 1, [1], none, 0, 0, []⟩ 2 RgV.l = [0, 1, 2] := by
  unfold atL; rw [if_pos (shE1 ..)]; show uniI [1, 0, 2] = [0, 1, 2]
  have hs : srtI [1, 0, 2] = [0, 1, 2] := by
    simp [srtI, List.mergeSort, List.MergeSort.Internal.splitInTwo, List.merge]
  have hc : Lib.compact ([0, 1, 2] : List Int) = [0, 1, 2] := (by kernel_rfl); unfold uniI; rw [hs, hc]
theorem shK1 : atL (exO A1 A2 A3 A4 P1 P2 P3) (tbL a b c d) ⟨e, 1, 1, [1], none, 0, 0, []⟩ 2 RgV.k = [0] := by kernel_rfl
theorem shN : neeF (exO A1 A2 A3 A4 P1 P2 P3) (tbL a b c d) ⟨e, 1, 1, [0], f, 1, 1, [0]⟩ = (2, 0) := by kernel_rfl
theorem shPE : planE [5, 1, 3, 4, 2] 2 = 0 := by kernel_rfl
theorem shPS : planS [5, 1, 3, 4, 2] 2 = 9 := by kernel_rfl
theorem shPG : planG [5, 1, 3, 4, 2] 2 = [[1, 4, 2], [3, 0]] := by kernel_rfl
theorem shTE : printE (exO A1 A2 A3 A4 P1 P2 P3) [⟨a, 2, 2, [0, 2], b, 1, 1, [0]⟩, ⟨none, 0, 0, [], none, 0, 0, []⟩] = 0 := by kernel_rfl
theorem shTX : printX (exO A1 A2 A3 A4 P1 P2 P3) [⟨a, 2, 2, [0, 2], b, 1, 1, [0]⟩, ⟨none, 0, 0, [], none, 0, 0, []⟩] = ⟨#[102, 114, 97, 109, 101, 32, 102, 108, 117, 116, 101, 56, 64, 103, 114, 101, 97, 116, 32, 98, 97, 115, 115, 64, 103, 114, 101, 97, 116, 32, 43, 111, 99, 116, 97, 118, 101, 10, 102, 114, 97, 109, 101, 10]⟩ := by kernel_rfl
end
theorem shAt (A1 A2 A3 A4 P1 P2 P3 : Option Addr) (T a b c d : Option Addr) (ga : Nat) (w : World) (hM : SpM w (exO A1 A2 A3 A4 P1 P2 P3)) (hT : TbM w T 3 3 (tbL a b c d)) (hB : Blk w ga 3 #[.int .i64 1]) :
    Calls Tryz.prog 17 #[.agg #[.slice A1 1 1, .slice A2 2 2, .slice A3 3 3, .slice A4 1 1], .agg #[.slice T 3 3], .int .i64 2, .agg #[.slice (some ⟨ga, 0, none⟩) 1 1, .slice none 0 0]] w fun e w' =>
      (∃ A n c B m d, e = .returned (.tuple #[.agg #[.slice A n c, .slice B m d], .int .i64 0]) ∧ RgM w' ⟨A, n, c, [0, 1, 2], B, m, d, [0]⟩) ∧ Below w.heap.size w w' := by
  refine (At_any (exO A1 A2 A3 A4 P1 P2 P3) T 3 3 (tbL a b c d) 2 ⟨some ⟨ga, 0, none⟩, 1, 1, [1], none, 0, 0, []⟩ w hM (exO_F ..) hT ⟨.of_blk hB rfl rfl, II.nil _ _, ⟨Nat.le_refl _, by show 1 ≤ maxLen; decide⟩, ⟨Nat.le_refl _, Nat.zero_le _⟩⟩ (by decide)).mono ?_; rintro e w' ⟨⟨A, n, c', B, m, d', h1, h2⟩, hb⟩; rw [shE1] at h1; rw [shL1, shK1] at h2; exact ⟨⟨A, n, c', B, m, d', h1, h2⟩, hb⟩
theorem shNeeded (A1 A2 A3 A4 P1 P2 P3 : Option Addr) (T a b c d : Option Addr) (ga gb : Nat) (w : World) (hM : SpM w (exO A1 A2 A3 A4 P1 P2 P3)) (hT : TbM w T 3 3 (tbL a b c d)) (hB : Blk w ga 3 #[.int .i64 0]) (hC : Blk w gb 3 #[.int .i64 0]) :
    Calls Tryz.prog 19 #[.agg #[.slice A1 1 1, .slice A2 2 2, .slice A3 3 3, .slice A4 1 1], .agg #[.slice T 3 3], .agg #[.slice (some ⟨ga, 0, none⟩) 1 1, .slice (some ⟨gb, 0, none⟩) 1 1]] w fun e w' =>
      e = .returned (.tuple #[.int .i64 2, .int .i64 0]) ∧ Below w.heap.size w w' := by
  refine (Needed_any (exO A1 A2 A3 A4 P1 P2 P3) T 3 3 (tbL a b c d) ⟨some ⟨ga, 0, none⟩, 1, 1, [0], some ⟨gb, 0, none⟩, 1, 1, [0]⟩ w hM (exO_F ..) hT ⟨.of_blk hB rfl rfl, .of_blk hC rfl rfl, ⟨Nat.le_refl _, by show 1 ≤ maxLen; decide⟩, ⟨Nat.le_refl _, by show 1 ≤ maxLen; decide⟩⟩).mono ?_; rintro e w' ⟨h1, hb⟩; rw [shN] at h1; exact ⟨h1, hb⟩
theorem shPrint (A1 A2 A3 A4 P1 P2 P3 : Option Addr) (gt ga gb : Nat) (w : World) (hM : SpM w (exO A1 A2 A3 A4 P1 P2 P3)) (hB : Blk w ga 3 #[.int .i64 0, .int .i64 2]) (hC : Blk w gb 3 #[.int .i64 0]) (hT : Blk w gt 45 #[.slice (some ⟨ga, 0, none⟩) 2 2, .slice (some ⟨gb, 0, none⟩) 1 1, .slice none 0 0, .slice none 0 0]) :
    Calls Tryz.prog 34 #[.agg #[.slice A1 1 1, .slice A2 2 2, .slice A3 3 3, .slice A4 1 1], .slice (some ⟨gt, 0, none⟩) 2 2] w fun e w' =>
      e = .returned (.tuple #[.string ⟨#[102, 114, 97, 109, 101, 32, 102, 108, 117, 116, 101, 56, 64, 103, 114, 101, 97, 116, 32, 98, 97, 115, 115, 64, 103, 114, 101, 97, 116, 32, 43, 111, 99, 116, 97, 118, 101, 10, 102, 114, 97, 109, 101, 10]⟩, .int .i64 0]) ∧ Below w.heap.size w w' := by
  refine (crPrint_any (exO A1 A2 A3 A4 P1 P2 P3) (some ⟨gt, 0, none⟩) 2 2 [⟨some ⟨ga, 0, none⟩, 2, 2, [0, 2], some ⟨gb, 0, none⟩, 1, 1, [0]⟩, ⟨none, 0, 0, [], none, 0, 0, []⟩] w hM (exO_F ..) ⟨.of_blk hT (fun _ => rfl) rfl rfl, ⟨Nat.le_refl _, by decide⟩, fun y hy => ?_⟩).mono ?_
  · simp only [List.mem_cons, List.not_mem_nil, or_false] at hy; rcases hy with rfl | rfl
    · exact ⟨.of_blk hB rfl rfl, .of_blk hC rfl rfl, ⟨Nat.le_refl _, by show 2 ≤ maxLen; decide⟩, ⟨Nat.le_refl _, by show 1 ≤ maxLen; decide⟩⟩
    · exact ⟨II.nil _ _, II.nil _ _, ⟨Nat.le_refl _, Nat.zero_le _⟩, ⟨Nat.le_refl _, Nat.zero_le _⟩⟩
  · rintro e w' ⟨h1, hb⟩; rw [shTX, shTE] at h1; exact ⟨h1, hb⟩
end Go.Proofs.YtabkpbbjodfolaaGreatDoor
