/- Package mixtures: Plan of the law's example. -/
import Derived.Test.YtafadpaljanghaaGreatDoorMyY
import Derived.Test.YtafadpaljanghaaGreatDoorMyG
import Derived.Sort.OwnSortedInts
import Derived.Laws.ResultCell
namespace Go.Proofs.YtafadpaljanghaaGreatDoor
set_option linter.unusedSimpArgs false
open Go.RowKit
set_option linter.unusedVariables false

theorem asc_of_pairwise : ∀ {l : List Int}, l.Pairwise (fun a b => decide (a ≤ b) = true) → Asc l
  | [], _ => trivial
  | a :: l, h => by
    rw [List.pairwise_cons] at h
    exact Asc.cons (fun v hv => of_decide_eq_true (h.1 v hv)) (asc_of_pairwise h.2)
theorem msort_srt (l : List Int) : l.mergeSort (fun x y => decide (x ≤ y)) = srt l := by
  refine srt_of (asc_of_pairwise (List.pairwise_mergeSort (fun a b c h1 h2 => ?_) (fun a b => ?_) l)) (List.mergeSort_perm l _)
  · have := of_decide_eq_true h1
    have := of_decide_eq_true h2
    exact decide_eq_true (by omega)
  · rw [Bool.or_eq_true, decide_eq_true_iff, decide_eq_true_iff]; omega
/-- slices.Sort of a row of the call's own -/
theorem sortOwn_any (base g cap : Nat) (zs : List Int) (w : World) (h0 : 0 < zs.length) (hsz : zs.length < 4611686018427387904) (hown : w.ownsRow base 3 1 (.slice (some ⟨g, 0, none⟩) zs.length cap) zs.length (zs.map iv)) (hb : base ≤ w.heap.size) :
    Calls Tryz.prog 50 #[.slice (some ⟨g, 0, none⟩) zs.length cap] w fun e w' => e = .returned (.tuple #[]) ∧ w'.ownsRow base 3 1 (.slice (some ⟨g, 0, none⟩) zs.length cap) zs.length ((srt zs).map iv) ∧ Mv g w w' := by
  obtain ⟨hl, h1 | ⟨g', cap', cur, e1, hbg, hh, hnc, hcm, hcs, htake⟩⟩ := hown
  · cases h1.1
  · injection e1 with e1 e2 e3
    injection e1 with e1
    injection e1 with e1
    subst e1 e3
    rw [Nat.mul_one] at htake
    have hlt : g < w.heap.size := (Array.getElem?_eq_some_iff.1 hh).1
    refine (Tryz.slices_Sort_int g 0 cap zs w (holds_of_blockI hh htake) hlt hsz).mono fun e w' h => ?_
    obtain ⟨h1, n, os, rfl⟩ := h
    rw [msort_srt]
    refine ⟨h1, ?_, ?_⟩
    · exact ownsRow_sortedI (n := n) (os := os) (ts := srt zs) (srt_perm zs).length_eq hbg hh hnc hcm hcs
    · exact Mv.of_grown (grownBy_sortedI _) (fun k hk => by injection hk with hk; exact hk.symm)
theorem xform_lt {w : World} {base size n g cap : Nat} {e : TypeId} {m : Nat} {xs : List Value} (h : w.ownsRow base e size (.slice (some ⟨g, 0, none⟩) m cap) n xs) : g < w.heap.size := by
  rcases h.2 with ⟨h1, _⟩ | ⟨g', cap', cur, e1, _, hh, _⟩
  · cases h1
  · injection e1 with e1; injection e1 with e1; injection e1 with e1; subst e1
    exact (Array.getElem?_eq_some_iff.1 hh).1
theorem xblk_ne {g g' n c k : Nat} (hk : (Value.slice (some ⟨g, 0, none⟩) n c).ownBlock = some k) (h : g ≠ g') : k ≠ g' := by
  have e : g = k := by simpa [Value.ownBlock] using hk
  rw [← e]; exact h
theorem size_int1 : (Tryz.prog.info? 3).map (·.size) = some 1 := by kernel_rfl
theorem size_mx : (Tryz.prog.info? 34).map (·.size) = some 3 := by kernel_rfl
theorem results_row2m {P : Program} {fn : Func} {p u : Tmp} {ty : TypeId} (h : fn.results = #[.cell p ty, .tmp u]) (tmps : Array Value) (w : World) (g : Nat) (t : TypeId) (cs : Array Value) (d : TypeDesc)
    (hp : tmps.getD p undef = .pointer (some ⟨g, 0, none⟩)) (hg : Blk w g t cs)
    (hu : P.underlying ty = some d) (hd : (match d with | .struct _ | .array _ _ => true | _ => false) = true) (hi : (P.info? ty).map (·.size) = some cs.size) :
    (results fn tmps).run P w = .ok (.tuple #[.agg cs, tmps.getD u undef]) w := by
  rw [results_cell_tmp h, hp]
  simp [asAddr, run_loadVar_row w g t ty cs (0, 0) d hg hu hd hi, Result.andThen]
theorem size_brks : (Tryz.prog.info? 32).map (·.size) = some 1 := by kernel_rfl
/-- slices.Clone of a row of the call's own -/
theorem cloneOwn_any (base g cap : Nat) (zs : List Int) (w : World) (h0 : 0 < zs.length) (hsz : zs.length * 8 ≤ 140737488355328) (hown : w.ownsRow base 3 1 (.slice (some ⟨g, 0, none⟩) zs.length cap) zs.length (zs.map iv)) :
    Calls Tryz.prog 46 #[.slice (some ⟨g, 0, none⟩) zs.length cap] w fun e w' => ∃ g' cap', e = .returned (.slice (some ⟨g', 0, none⟩) zs.length cap') ∧ w'.ownsRow w.heap.size 3 1 (.slice (some ⟨g', 0, none⟩) zs.length cap') zs.length (zs.map iv) ∧ w.heap.size ≤ g' ∧ Below w.heap.size w w' := by
  refine (Tryz.slices_Clone_int g 0 zs.length cap zs w (Nat.le_refl _) hsz (fun j hj => ?_)).mono fun e w' h => ?_
  · rw [Nat.zero_add, hown.cellAt j (by omega), List.getElem?_map, List.getElem?_eq_getElem hj]
    simp [iv, List.getD, List.getElem?_eq_getElem hj]
  · obtain ⟨v, rfl, h1, _, h3⟩ := h
    rw [List.take_of_length_le (Nat.le_refl _)] at h1
    obtain ⟨g', cap', rfl, h4, _⟩ := h1.form h0
    exact ⟨g', cap', rfl, h1, h4, h3⟩
theorem pl_chk (A : Option Addr) (c : Nat) : (mxO 36 96 [⟨36, A, 3, c, [24, 31, 36]⟩]).chk1 = 0 := by rfl
theorem ex_rerr (g : Nat) : (mxO 36 96 (exL g)).rerr 60 = 0 := by rfl
theorem ex_rows (g : Nat) : (mxO 36 96 (exL g)).rows 60 = [79, 84, 91] := by rfl
theorem infoLow : ∃ (i : TypeInfo) (z : Value), Tryz.prog.info? 93 = some i ∧ i.zero = some z ∧ i.size = 2 ∧ i.bytes = 16 ∧ z.cells.size = 2 := by
  have h : (Tryz.prog.info? 93).isSome = true := by kernel_rfl
  obtain ⟨i, hi⟩ := Option.isSome_iff_exists.1 h
  have h1 : (Tryz.prog.info? 93).bind (·.zero) = some (.agg #[.int .i64 0, .int .i64 0]) := by kernel_rfl
  have h2 : (Tryz.prog.info? 93).map (·.size) = some 2 := by kernel_rfl
  have h3 : (Tryz.prog.info? 93).map (·.bytes) = some 16 := by kernel_rfl
  rw [hi] at h1 h2 h3
  exact ⟨i, _, hi, by simpa using h1, by simpa using h2, by simpa using h3, rfl⟩
theorem infoBrk : ∃ (i : TypeInfo) (z : Value), Tryz.prog.info? 59 = some i ∧ i.zero = some z ∧ i.size = 2 ∧ i.bytes = 32 ∧ z.cells.size = 2 := by
  have h : (Tryz.prog.info? 59).isSome = true := by kernel_rfl
  obtain ⟨i, hi⟩ := Option.isSome_iff_exists.1 h
  have h1 : (Tryz.prog.info? 59).bind (·.zero) = some (.agg #[.int .i64 0, .slice none 0 0]) := by kernel_rfl
  have h2 : (Tryz.prog.info? 59).map (·.size) = some 2 := by kernel_rfl
  have h3 : (Tryz.prog.info? 59).map (·.bytes) = some 32 := by kernel_rfl
  rw [hi] at h1 h2 h3
  exact ⟨i, _, hi, by simpa using h1, by simpa using h2, by simpa using h3, rfl⟩
theorem xreads2 (W : World) (T : TypeId) (u v : Value) : Reads (W.alloc (.cells #[u, v] T)) (W.heap.size + 1) 2 (some ⟨W.heap.size, 0, none⟩) 1 [u, v] := by
  have := Reads.of_blk (Blk.new W T #[u, v]) (size := 2) (n := 1) rfl
  simpa using this
/-- what Plan of the example tells -/
def PlR (e : Ending) (w' : World) : Prop := ∃ g cap A1 c1 A2 c2, e = .returned (.tuple #[.agg #[.int .i64 36, .int .i64 96, .slice (some ⟨g, 0, none⟩) 2 cap], .int .i64 0]) ∧ MX w' (some ⟨g, 0, none⟩) 2 [⟨36, A1, 3, c1, [24, 31, 36]⟩, ⟨85, A2, 3, c2, [19, 24, 24]⟩]
set_option maxHeartbeats 6400000 in
set_option maxRecDepth 100000 in
theorem planEx_any (A : Option Addr) (c : Nat) (w : World) (hl : II w A 3 [24, 31, 36]) (hc : 3 ≤ c ∧ c ≤ maxLen) : Calls Tryz.prog 21 #[.int .i64 36, .int .i64 96, .slice A 3 c, .int .i64 120, .int .i64 5] w fun e w' => PlR e w' ∧ Below w.heap.size w w' := by
  have hmf : ∀ (fn : Fn) (first cap : Array Value) (w : World), (Instr.makeFunc fn first cap).run Tryz.prog w = .ok (.func fn first cap) w := fun _ _ _ _ => rfl
  obtain ⟨i0, z0, hi0, hz0, hz1, hz2, hz3⟩ := infoLow
  have HI : Sl _ := ⟨And.intro hi0 (And.intro hz0 (And.intro hz1 (And.intro hz2 hz3)))⟩
  obtain ⟨i1, z1, hy0, hy1, hy2, hy3, hy4⟩ := infoBrk
  have HJ : Sl _ := ⟨And.intro hy0 (And.intro hy1 (And.intro hy2 (And.intro hy3 hy4)))⟩
  clear hi0 hz0 hz1 hz2 hz3 hy0 hy1 hy2 hy3 hy4
  have HL : Sl _ := ⟨hl⟩
  have HC : Sl _ := ⟨hc⟩
  clear hl hc
  go_enter Tryz.func21, Tryz.ntmps21
  go_wp2_with fail
  have a0 := ((Blk.new w 34 #[.int .i64 0, .int .i64 0, .slice none 0 0]).alloc (.cells #[.int .i64 36, .slice A 3 c] 59)).alloc (.cells #[.int .i64 36, .int .i64 96, .slice (some ⟨w.heap.size + 1, 0, none⟩) 1 1] 34)
  have a1 := (Blk.new (w.alloc (.cells #[.int .i64 0, .int .i64 0, .slice none 0 0] 34)) 59 #[.int .i64 36, .slice A 3 c]).alloc (.cells #[.int .i64 36, .int .i64 96, .slice (some ⟨w.heap.size + 1, 0, none⟩) 1 1] 34)
  have a2 := Blk.new ((w.alloc (.cells #[.int .i64 0, .int .i64 0, .slice none 0 0] 34)).alloc (.cells #[.int .i64 36, .slice A 3 c] 59)) 34 #[.int .i64 36, .int .i64 96, .slice (some ⟨w.heap.size + 1, 0, none⟩) 1 1]
  have u0 := (((Below.refl w.heap.size w).alloc (Nat.le_refl _) (.cells #[.int .i64 0, .int .i64 0, .slice none 0 0] 34)).alloc (by simp) (.cells #[.int .i64 36, .slice A 3 c] 59)).alloc (by simp; omega) (.cells #[.int .i64 36, .int .i64 96, .slice (some ⟨w.heap.size + 1, 0, none⟩) 1 1] 34)
  rw [show (w.alloc (.cells #[.int .i64 0, .int .i64 0, .slice none 0 0] 34)).heap.size = w.heap.size + 1 by simp] at a1
  rw [show ((w.alloc (.cells #[.int .i64 0, .int .i64 0, .slice none 0 0] 34)).alloc (.cells #[.int .i64 36, .slice A 3 c] 59)).heap.size = w.heap.size + 1 + 1 by simp] at a2
  generalize ((w.alloc (.cells #[.int .i64 0, .int .i64 0, .slice none 0 0] 34)).alloc (.cells #[.int .i64 36, .slice A 3 c] 59)).alloc (.cells #[.int .i64 36, .int .i64 96, .slice (some ⟨w.heap.size + 1, 0, none⟩) 1 1] 34) = w0 at *
  have hM : MXA w0 (some ⟨w.heap.size + 1, 0, none⟩) 1 1 [⟨36, A, 3, c, [24, 31, 36]⟩] := by
    refine ⟨⟨rfl, Reads.of_blk a1 (size := 2) (n := 1) rfl, fun b hb => ?_⟩, ⟨Nat.le_refl _, by decide⟩, fun b hb => ?_, fun b hb => ?_, fun b hb => ?_⟩ <;> (simp only [List.mem_cons, List.not_mem_nil, or_false] at hb; subst hb)
    · exact HL.out.below u0
    · simp only [i64]; omega
    · exact HC.out
    · intro z hz; simp at hz; rcases hz with rfl | rfl | rfl <;> exact ⟨by decide, by decide⟩
  have HCK : Sl _ := ⟨mxcheck_any (w.heap.size + 1 + 1) 36 96 _ 1 1 _ w0 a2 hM ⟨by decide, by decide⟩ ⟨by decide, by decide⟩⟩
  rw [pl_chk] at HCK
  have HU : Sl _ := ⟨u0⟩
  have X0 : Sl _ := ⟨a0⟩
  clear a0 a1 a2 u0 hM
  refine HCK.out.mono ?_; rintro e w1 ⟨rfl, hb⟩
  replace HU : Sl (Below w.heap.size w w1) := ⟨HU.out.trans (hb.mono HU.out.size)⟩
  replace X0 : Sl (Blk w1 w.heap.size _ _) := ⟨X0.out.below hb X0.out.lt⟩
  clear hb HCK
  have HSZ : Sl (w.heap.size < w1.heap.size) := ⟨X0.out.lt⟩
  obtain ⟨b, o, rfl, hbl, hcs⟩ := HL.out.flat (by decide)
  have HRK : Sl (∀ W, Below w1.heap.size w1 W → W.cell? ⟨b, o, none⟩ = some (.int .i64 24) ∧ W.cell? ⟨b, o + 1, none⟩ = some (.int .i64 31) ∧ W.cell? ⟨b, o + 2, none⟩ = some (.int .i64 36)) := ⟨fun W h => by
    have hw := HU.out.trans (h.mono HU.out.size)
    refine ⟨?_, ?_, ?_⟩
    · exact (hw.cell (p := ⟨b, o + 0, none⟩) hbl).trans (hcs 0 (by decide))
    · exact (hw.cell (p := ⟨b, o + 1, none⟩) hbl).trans (hcs 1 (by decide))
    · exact (hw.cell (p := ⟨b, o + 2, none⟩) hbl).trans (hcs 2 (by decide))⟩
  clear hbl hcs
  obtain ⟨e0, e1, e2⟩ := HRK.out w1 (Below.refl _ _)
  go_wp2_with fail
  refine wp_loop_rounds 4 ?_
  rw [rounds_succ]
  go_wp2_with fail
  refine wp_loop_rounds 1 ?_
  rw [rounds_succ]
  go_wp2_with fail
  rw [rounds_succ]
  go_wp2_with fail
  refine wp_loop_rounds 2 ?_
  rw [rounds_succ]
  go_wp2_with (at_builtin; go_loud (refine wpList_append_any _ rfl (.tmp 64) (.tmp 68) _ rfl w1.heap.size 93 i0 z0 2 16 Tryz.underlying91 HI.out.1 HI.out.2.1 HI.out.2.2.1 HI.out.2.2.2.1 HI.out.2.2.2.2 (by decide) (.slice none 0 0) 0 [] rfl (World.ownsRow_nil _ _ _ _) _ (some ⟨w1.heap.size, 0, none⟩) 1 1 [.int .i64 1, .int .i64 90] rfl (xreads2 _ _ _ _) (by intro u hu; simp at hu; rcases hu with rfl | rfl <;> rfl) (by unfold maxLen; omega) (by omega) (by simp) ?_; rintro v1 wa hown hg hat; have XA : Sl (wa.ownsRow w1.heap.size 93 2 v1 1 [.int .i64 1, .int .i64 90]) := ⟨hown⟩; have HA : Sl (Below w1.heap.size w1 wa) := ⟨xbelow_grown (Below.refl _ _) (Nat.le_refl _) (World.ownsRow_nil w1 w1.heap.size 93 2) hg⟩; clear hown hg hat; clear e0 e1 e2; obtain ⟨e0, e1, e2⟩ := HRK.out wa HA.out))
  rw [rounds_succ]
  go_wp2_with fail
  rw [rounds_succ]
  go_wp2_with fail
  refine wp_loop_rounds 2 ?_
  rw [rounds_succ]
  go_wp2_with (at_builtin; go_loud (refine wpList_append_any _ rfl (.tmp 64) (.tmp 68) _ rfl w1.heap.size 93 i0 z0 2 16 Tryz.underlying91 HI.out.1 HI.out.2.1 HI.out.2.2.1 HI.out.2.2.2.1 HI.out.2.2.2.2 (by decide) v1 1 [.int .i64 1, .int .i64 90] rfl (xown_alloc XA.out _) _ (some ⟨wa.heap.size, 0, none⟩) 1 1 [.int .i64 2, .int .i64 85] rfl (xreads2 _ _ _ _) (by intro u hu; simp at hu; rcases hu with rfl | rfl <;> rfl) (by unfold maxLen; omega) (by omega) (by have := HA.out.size; simp; omega) ?_; rintro v2 wb hown hg hat; obtain ⟨g, cap, rfl, hgb, hgl⟩ := hown.form (by decide); have XB : Sl (wb.ownsRow w1.heap.size 93 2 (.slice (some ⟨g, 0, none⟩) 2 cap) 2 (two2 1 90 2 85)) := ⟨hown⟩; have HB : Sl (Below w1.heap.size w1 wb) := ⟨xbelow_grown HA.out HA.out.size XA.out hg⟩; have HG : Sl (w1.heap.size ≤ g) := ⟨hgb⟩; clear hown hg hat hgb hgl; clear e0 e1 e2; obtain ⟨e0, e1, e2⟩ := HRK.out wb HB.out))
  rw [rounds_succ]
  go_wp2_with fail
  rw [rounds_succ]
  go_wp2_with fail
  refine (by2_any w1.heap.size g cap 1 90 2 85 wb (by decide) XB.out HB.out.size).mono ?_; rintro e wc ⟨rfl, hown, hb⟩
  clear e0 e1 e2
  have XW : Sl (wc.ownsRow w1.heap.size 93 2 (.slice (some ⟨g, 0, none⟩) 2 cap) 2 (two2 2 85 1 90)) := ⟨hown⟩
  have HC1 : Sl (Below w1.heap.size w1 wc) := ⟨HB.out.trans hb⟩
  replace X0 : Sl (Blk wc w.heap.size _ _) := ⟨X0.out.below HC1.out X0.out.lt⟩
  clear hown hb XA HA XB HB
  have S0 : Sl (w.heap.size < g ∧ g < wc.heap.size) := ⟨by
    have h1 := X0.out.lt
    obtain ⟨g', c', e, h2, h3⟩ := XW.out.form (by decide)
    injection e with e; injection e with e; injection e with e; subst e
    have := HG.out
    exact ⟨by have := HU.out.size; have hx := HSZ.out; omega, h3⟩⟩
  have XX : Sl (Blk (wc.alloc (.cells #[.int .i64 36, .int .i64 96, .slice none 0 0] 34)) wc.heap.size 34 #[.int .i64 36, .int .i64 96, .slice none 0 0]) := ⟨Blk.new _ _ _⟩
  have hbd : Below wc.heap.size wc (wc.alloc (.cells #[.int .i64 36, .int .i64 96, .slice none 0 0] 34)) := (Below.refl _ _).alloc (Nat.le_refl _) _
  have HBD : Sl _ := ⟨hbd⟩
  clear hbd
  go_wp2_with fail
  have HSD : Sl ((wc.alloc (.cells #[.int .i64 36, .int .i64 96, .slice none 0 0] 34)).heap.size = wc.heap.size + 1) := ⟨by simp⟩
  generalize wc.alloc (.cells #[.int .i64 36, .int .i64 96, .slice none 0 0] 34) = wd at *
  replace X0 : Sl (Blk wd w.heap.size _ _) := ⟨X0.out.below HBD.out X0.out.lt⟩
  replace XW : Sl (wd.ownsRow w1.heap.size 93 2 (.slice (some ⟨g, 0, none⟩) 2 cap) 2 (two2 2 85 1 90)) := ⟨own_mv XW.out (Mv.of_below HBD.out) (fun k hk => by
    have e : g = k := by simpa [Value.ownBlock] using hk
    have := S0.out; omega)⟩
  have HD : Sl (Below w1.heap.size w1 wd) := ⟨HC1.out.trans (HBD.out.mono HC1.out.size)⟩
  obtain ⟨gx, hgx⟩ : ∃ gx, wc.heap.size = gx := ⟨_, rfl⟩
  rw [hgx] at XX S0 HSD
  rw [hgx]
  clear hgx HBD HC1
  have hcl : ∀ j, j < ([24, 31, 36] : List Int).length → wd.cell? ⟨b, o + j, none⟩ = some (.int .i64 (([24, 31, 36] : List Int).getD j 0)) := fun j hj => by
    obtain ⟨q0, q1, q2⟩ := HRK.out wd HD.out
    match j, hj with
    | 0, _ => exact q0
    | 1, _ => exact q1
    | 2, _ => exact q2
  refine (Tryz.slices_Clone_int b o 3 c [24, 31, 36] wd (by decide) (by decide) hcl).mono ?_; rintro e we ⟨v, rfl, hown, _, hb⟩
  clear hcl
  obtain ⟨gn, cn, rfl, hgb, hgl⟩ := hown.form (by decide)
  have XN : Sl (we.ownsRow wd.heap.size 3 1 (.slice (some ⟨gn, 0, none⟩) 3 cn) 3 [.int .i64 24, .int .i64 31, .int .i64 36]) := ⟨hown⟩
  have ORD : Sl (w.heap.size < g ∧ g < gx ∧ gx < gn) := ⟨by have := S0.out; have := HSD.out; omega⟩
  have HE : Sl (Below w1.heap.size w1 we) := ⟨HD.out.trans (hb.mono HD.out.size)⟩
  replace X0 : Sl (Blk we w.heap.size 34 #[.int .i64 0, .int .i64 0, .slice none 0 0]) := ⟨X0.out.mv (Mv.of_below hb) (by have := ORD.out; have := X0.out.lt; omega)⟩
  replace XX : Sl (Blk we gx 34 #[.int .i64 36, .int .i64 96, .slice none 0 0]) := ⟨XX.out.mv (Mv.of_below hb) (by have := ORD.out; have := XX.out.lt; omega)⟩
  replace XW : Sl (we.ownsRow w1.heap.size 93 2 (.slice (some ⟨g, 0, none⟩) 2 cap) 2 (two2 2 85 1 90)) := ⟨own_mv XW.out (Mv.of_below hb) (fun k hk => by
    have e : g = k := by simpa [Value.ownBlock] using hk
    have := ORD.out; have := xform_lt XW.out; omega)⟩
  clear hown hb hgb hgl HD S0 HSD
  have y0 := XW.out.cellAt 0 (by decide)
  have y1 := XW.out.cellAt 1 (by decide)
  have y2 := XW.out.cellAt 2 (by decide)
  have y3 := XW.out.cellAt 3 (by decide)
  simp [two2] at y0 y1 y2 y3
  have PRV : Sl (gn < we.heap.size) := ⟨xform_lt XN.out⟩
  go_wp2_with fail
  refine wp_loop_rounds 2 ?_
  rw [rounds_succ]
  go_wp2_with fail
  refine wp_loop_rounds 1 ?_
  rw [rounds_succ]
  go_wp2_with fail
  have hgn := PRV.out
  refine (cloneOwn_any wd.heap.size gn cn [24, 31, 36] we (by decide) (by decide) XN.out).mono ?_; rintro e wf ⟨gr, cr, rfl, hown, hgr, hb⟩
  replace X0 : Sl (Blk wf w.heap.size 34 #[.int .i64 0, .int .i64 0, .slice none 0 0]) := ⟨X0.out.mv (Mv.of_below hb) (by have := ORD.out; have := X0.out.lt; omega)⟩
  replace XX : Sl (Blk wf gx 34 #[.int .i64 36, .int .i64 96, .slice none 0 0]) := ⟨XX.out.mv (Mv.of_below hb) (by have := ORD.out; have := XX.out.lt; omega)⟩
  replace XW : Sl (wf.ownsRow w1.heap.size 93 2 (.slice (some ⟨g, 0, none⟩) 2 cap) 2 (two2 2 85 1 90)) := ⟨own_mv XW.out (Mv.of_below hb) (fun k hk => xblk_ne hk (by have := ORD.out; have := xform_lt XW.out; omega))⟩
  replace XN : Sl (wf.ownsRow wd.heap.size 3 1 (.slice (some ⟨gn, 0, none⟩) 3 cn) 3 ([.int .i64 24, .int .i64 31, .int .i64 36])) := ⟨own_mv XN.out (Mv.of_below hb) (fun k hk => xblk_ne hk (by have := ORD.out; have := xform_lt XN.out; omega))⟩
  replace HE : Sl (Below w1.heap.size w1 wf) := ⟨below_mv HE.out (Mv.of_below hb) (by have := HE.out.size; have := ORD.out; have := HG.out; omega) HE.out.size⟩
  have Xr : Sl (wf.ownsRow we.heap.size 3 1 (.slice (some ⟨gr, 0, none⟩) 3 cr) 3 ([24, 31, 36].map iv)) := ⟨hown⟩
  have ORD2 : Sl (w.heap.size < g ∧ g < gx ∧ gx < gn ∧ gn < gr) := ⟨by have := ORD.out; have := PRV.out; omega⟩
  have HSr : Sl (we.heap.size ≤ wf.heap.size) := ⟨hb.size⟩
  clear hown hgr hb ORD PRV
  have ORD := ORD2
  clear ORD2 y0 y1 y2 y3
  go_wp2_with fail
  refine (sortOwn_any we.heap.size gr cr [24, 31, 36] wf (by decide) (by decide) Xr.out HSr.out).mono ?_; rintro e wg ⟨rfl, hown, hm⟩
  replace X0 : Sl (Blk wg w.heap.size 34 #[.int .i64 0, .int .i64 0, .slice none 0 0]) := ⟨X0.out.mv hm (by have := ORD.out; have := X0.out.lt; omega)⟩
  replace XX : Sl (Blk wg gx 34 #[.int .i64 36, .int .i64 96, .slice none 0 0]) := ⟨XX.out.mv hm (by have := ORD.out; have := XX.out.lt; omega)⟩
  replace XW : Sl (wg.ownsRow w1.heap.size 93 2 (.slice (some ⟨g, 0, none⟩) 2 cap) 2 (two2 2 85 1 90)) := ⟨own_mv XW.out hm (fun k hk => xblk_ne hk (by have := ORD.out; have := xform_lt XW.out; omega))⟩
  replace XN : Sl (wg.ownsRow wd.heap.size 3 1 (.slice (some ⟨gn, 0, none⟩) 3 cn) 3 ([.int .i64 24, .int .i64 31, .int .i64 36])) := ⟨own_mv XN.out hm (fun k hk => xblk_ne hk (by have := ORD.out; have := xform_lt XN.out; omega))⟩
  replace HE : Sl (Below w1.heap.size w1 wg) := ⟨below_mv HE.out hm (by have := HE.out.size; have := ORD.out; have := HG.out; omega) HE.out.size⟩
  replace Xr : Sl (wg.ownsRow we.heap.size 3 1 (.slice (some ⟨gr, 0, none⟩) 3 cr) 3 ([.int .i64 24, .int .i64 31, .int .i64 36])) := ⟨hown⟩
  clear hown hm HSr
  have z0 := Xr.out.cellAt 0 (by decide)
  simp at z0
  have y0 := XW.out.cellAt 0 (by decide)
  have y1 := XW.out.cellAt 1 (by decide)
  have y2 := XW.out.cellAt 2 (by decide)
  have y3 := XW.out.cellAt 3 (by decide)
  simp [two2] at y0 y1 y2 y3
  have x2 := XX.out.cell 2
  simp at x2
  clear hgn
  have HWG : Sl (gr < wg.heap.size) := ⟨xform_lt Xr.out⟩
  have HWS : Sl (wg.heap.size ≤ wg.heap.size) := ⟨Nat.le_refl _⟩
  go_wp2_with ((with_reducible show wpList _ _ _ _ _ _); first
    | (at_builtin; (refine wpList_append_any _ rfl (.tmp 125) (.tmp 129) _ rfl wg.heap.size 59 i1 z1 2 32 Tryz.underlying32 HJ.out.1 HJ.out.2.1 HJ.out.2.2.1 HJ.out.2.2.2.1 HJ.out.2.2.2.2 (by decide) (.slice none 0 0) 0 [] rfl (World.ownsRow_nil _ _ _ _) _ (some ⟨wg.heap.size, 0, none⟩) 1 1 [.int .i64 36, .slice (some ⟨gr, 0, none⟩) 3 cr] rfl (xreads2 _ _ _ _) (by intro u hu; simp at hu; rcases hu with rfl | rfl <;> rfl) (by unfold maxLen; omega) (by omega) (by have := HWS.out; (first | (simp; done) | (simp; omega))) ?_; rintro v_gb wh hown hg hat; obtain ⟨gb, cb, rfl, hgb, hgl⟩ := hown.form (by decide); have hm : Mv wg.heap.size wg wh := Mv.trans (Mv.below ((Below.refl _ _).alloc (Nat.le_refl _) _)) (Mv.of_grown hg (fun k hk => by simp [Value.ownBlock] at hk)); replace X0 : Sl (Blk wh w.heap.size 34 #[.int .i64 0, .int .i64 0, .slice none 0 0]) := ⟨X0.out.mv hm (by have := ORD.out; have := X0.out.lt; omega)⟩; replace XX : Sl (Blk wh gx 34 #[.int .i64 36, .int .i64 96, .slice none 0 0]) := ⟨XX.out.mv hm (by have := ORD.out; have := XX.out.lt; omega)⟩; replace XW : Sl (wh.ownsRow w1.heap.size 93 2 (.slice (some ⟨g, 0, none⟩) 2 cap) 2 (two2 2 85 1 90)) := ⟨own_mv XW.out hm (fun k hk => xblk_ne hk (by have := ORD.out; have := xform_lt XW.out; omega))⟩; replace XN : Sl (wh.ownsRow wd.heap.size 3 1 (.slice (some ⟨gn, 0, none⟩) 3 cn) 3 ([.int .i64 24, .int .i64 31, .int .i64 36])) := ⟨own_mv XN.out hm (fun k hk => xblk_ne hk (by have := ORD.out; have := xform_lt XN.out; omega))⟩; replace Xr : Sl (wh.ownsRow we.heap.size 3 1 (.slice (some ⟨gr, 0, none⟩) 3 cr) 3 ([.int .i64 24, .int .i64 31, .int .i64 36])) := ⟨own_mv Xr.out hm (fun k hk => xblk_ne hk (by have := ORD.out; have := xform_lt Xr.out; omega))⟩; replace HWS : Sl (wg.heap.size ≤ wh.heap.size) := ⟨Nat.le_trans HWS.out (Mv.size hm)⟩; replace HE : Sl (Below w1.heap.size w1 wh) := ⟨below_mv HE.out hm (by have := HE.out.size; have := ORD.out; have := HG.out; omega) HE.out.size⟩; have Xb : Sl (wh.ownsRow wg.heap.size 59 2 (.slice (some ⟨gb, 0, none⟩) 1 cb) 1 [.int .i64 36, .slice (some ⟨gr, 0, none⟩) 3 cr]) := ⟨hown⟩; have ORD2 : Sl (w.heap.size < g ∧ g < gx ∧ gx < gn ∧ gn < gr ∧ gr < gb) := ⟨by have := ORD.out; have := HWG.out; omega⟩; clear ORD; have ORD := ORD2; clear ORD2 hown hg hat hgb hgl hm y0 y1 y2 y3 x2 z0))
    | ((refine wpList_store_cell rfl 32 (.tmp 131) (.tmp 130) rfl gx 2 (.slice (some ⟨gb, 0, none⟩) 1 cb) rfl rfl 34 #[.int .i64 36, .int .i64 96, .slice none 0 0] #[.int .i64 36, .int .i64 96, .slice (some ⟨gb, 0, none⟩) 1 cb] XX.out (Nat.le_refl 3) rfl size_brks rfl rfl ?_; rintro wi hm hsz hbk hqq; clear hqq; replace X0 : Sl (Blk wi w.heap.size 34 #[.int .i64 0, .int .i64 0, .slice none 0 0]) := ⟨X0.out.mv hm (by have := ORD.out; have := X0.out.lt; omega)⟩; replace XW : Sl (wi.ownsRow w1.heap.size 93 2 (.slice (some ⟨g, 0, none⟩) 2 cap) 2 (two2 2 85 1 90)) := ⟨own_mv XW.out hm (fun k hk => xblk_ne hk (by have := ORD.out; have := xform_lt XW.out; omega))⟩; replace XN : Sl (wi.ownsRow wd.heap.size 3 1 (.slice (some ⟨gn, 0, none⟩) 3 cn) 3 ([.int .i64 24, .int .i64 31, .int .i64 36])) := ⟨own_mv XN.out hm (fun k hk => xblk_ne hk (by have := ORD.out; have := xform_lt XN.out; omega))⟩; replace Xr : Sl (wi.ownsRow we.heap.size 3 1 (.slice (some ⟨gr, 0, none⟩) 3 cr) 3 ([.int .i64 24, .int .i64 31, .int .i64 36])) := ⟨own_mv Xr.out hm (fun k hk => xblk_ne hk (by have := ORD.out; have := xform_lt Xr.out; omega))⟩; replace Xb : Sl (wi.ownsRow wg.heap.size 59 2 (.slice (some ⟨gb, 0, none⟩) 1 cb) 1 ([.int .i64 36, .slice (some ⟨gr, 0, none⟩) 3 cr])) := ⟨own_mv Xb.out hm (fun k hk => xblk_ne hk (by have := ORD.out; have := xform_lt Xb.out; omega))⟩; replace HWS : Sl (wg.heap.size ≤ wi.heap.size) := ⟨Nat.le_trans HWS.out (Mv.size hm)⟩; replace HE : Sl (Below w1.heap.size w1 wi) := ⟨below_mv HE.out hm (by have := HE.out.size; have := ORD.out; have := HG.out; omega) HE.out.size⟩; replace XX : Sl (Blk wi gx 34 #[.int .i64 36, .int .i64 96, .slice (some ⟨gb, 0, none⟩) 1 cb]) := ⟨hbk⟩; clear hm hsz hbk; have y0 := XW.out.cellAt 0 (by decide); have y1 := XW.out.cellAt 1 (by decide); have y2 := XW.out.cellAt 2 (by decide); have y3 := XW.out.cellAt 3 (by decide); simp [two2] at y0 y1 y2 y3)))
  rw [rounds_succ]
  have n0 := XN.out.cellAt 0 (by decide)
  have n1 := XN.out.cellAt 1 (by decide)
  have n2 := XN.out.cellAt 2 (by decide)
  simp at n0 n1 n2
  have hcap2 : 2 ≤ cap := by
    rcases XW.out.2 with ⟨h1, _⟩ | ⟨g1, c1, cur, e1, _, _, h2, _⟩
    · cases h1
    · injection e1 with e1 e2 e3; omega
  go_wp2_with fail
  refine wp_loop_rounds 3 ?_
  rw [rounds_succ]
  go_wp2_with ((with_reducible show wpList _ _ _ _ _ _); first
    | ((refine wpList_store_own rfl 3 (.tmp 104) (.tmp 103) rfl gn 2 (.int .i64 24) rfl rfl wd.heap.size 3 1 3 cn [.int .i64 24, .int .i64 31, .int .i64 36] XN.out (by decide) size_int1 rfl rfl ?_; rintro wj hm hsz hown; replace X0 : Sl (Blk wj w.heap.size 34 #[.int .i64 0, .int .i64 0, .slice none 0 0]) := ⟨X0.out.mv hm (by have := ORD.out; have := X0.out.lt; omega)⟩; replace XX : Sl (Blk wj gx 34 #[.int .i64 36, .int .i64 96, .slice (some ⟨gb, 0, none⟩) 1 cb]) := ⟨XX.out.mv hm (by have := ORD.out; have := XX.out.lt; omega)⟩; replace XW : Sl (wj.ownsRow w1.heap.size 93 2 (.slice (some ⟨g, 0, none⟩) 2 cap) 2 (two2 2 85 1 90)) := ⟨own_mv XW.out hm (fun k hk => xblk_ne hk (by have := ORD.out; have := xform_lt XW.out; omega))⟩; replace Xr : Sl (wj.ownsRow we.heap.size 3 1 (.slice (some ⟨gr, 0, none⟩) 3 cr) 3 ([.int .i64 24, .int .i64 31, .int .i64 36])) := ⟨own_mv Xr.out hm (fun k hk => xblk_ne hk (by have := ORD.out; have := xform_lt Xr.out; omega))⟩; replace Xb : Sl (wj.ownsRow wg.heap.size 59 2 (.slice (some ⟨gb, 0, none⟩) 1 cb) 1 ([.int .i64 36, .slice (some ⟨gr, 0, none⟩) 3 cr])) := ⟨own_mv Xb.out hm (fun k hk => xblk_ne hk (by have := ORD.out; have := xform_lt Xb.out; omega))⟩; replace HWS : Sl (wg.heap.size ≤ wj.heap.size) := ⟨Nat.le_trans HWS.out (Mv.size hm)⟩; replace HE : Sl (Below w1.heap.size w1 wj) := ⟨below_mv HE.out hm (by have := HE.out.size; have := ORD.out; have := HG.out; omega) HE.out.size⟩; replace XN : Sl (wj.ownsRow wd.heap.size 3 1 (.slice (some ⟨gn, 0, none⟩) 3 cn) 3 ([.int .i64 24, .int .i64 31, .int .i64 24])) := ⟨hown⟩; clear hm hsz hown)))
  clear y0 y1 y2 y3 n0 n1 n2
  have y0 := XW.out.cellAt 0 (by decide)
  have y1 := XW.out.cellAt 1 (by decide)
  have y2 := XW.out.cellAt 2 (by decide)
  have y3 := XW.out.cellAt 3 (by decide)
  simp [two2] at y0 y1 y2 y3
  have n0 := XN.out.cellAt 0 (by decide)
  have n1 := XN.out.cellAt 1 (by decide)
  have n2 := XN.out.cellAt 2 (by decide)
  simp at n0 n1 n2
  rw [rounds_succ]
  go_wp2_with ((with_reducible show wpList _ _ _ _ _ _); first
    | ((refine wpList_store_own rfl 3 (.tmp 104) (.tmp 103) rfl gn 1 (.int .i64 19) rfl rfl wd.heap.size 3 1 3 cn [.int .i64 24, .int .i64 31, .int .i64 24] XN.out (by decide) size_int1 rfl rfl ?_; rintro wk hm hsz hown; replace X0 : Sl (Blk wk w.heap.size 34 #[.int .i64 0, .int .i64 0, .slice none 0 0]) := ⟨X0.out.mv hm (by have := ORD.out; have := X0.out.lt; omega)⟩; replace XX : Sl (Blk wk gx 34 #[.int .i64 36, .int .i64 96, .slice (some ⟨gb, 0, none⟩) 1 cb]) := ⟨XX.out.mv hm (by have := ORD.out; have := XX.out.lt; omega)⟩; replace XW : Sl (wk.ownsRow w1.heap.size 93 2 (.slice (some ⟨g, 0, none⟩) 2 cap) 2 (two2 2 85 1 90)) := ⟨own_mv XW.out hm (fun k hk => xblk_ne hk (by have := ORD.out; have := xform_lt XW.out; omega))⟩; replace Xr : Sl (wk.ownsRow we.heap.size 3 1 (.slice (some ⟨gr, 0, none⟩) 3 cr) 3 ([.int .i64 24, .int .i64 31, .int .i64 36])) := ⟨own_mv Xr.out hm (fun k hk => xblk_ne hk (by have := ORD.out; have := xform_lt Xr.out; omega))⟩; replace Xb : Sl (wk.ownsRow wg.heap.size 59 2 (.slice (some ⟨gb, 0, none⟩) 1 cb) 1 ([.int .i64 36, .slice (some ⟨gr, 0, none⟩) 3 cr])) := ⟨own_mv Xb.out hm (fun k hk => xblk_ne hk (by have := ORD.out; have := xform_lt Xb.out; omega))⟩; replace HWS : Sl (wg.heap.size ≤ wk.heap.size) := ⟨Nat.le_trans HWS.out (Mv.size hm)⟩; replace HE : Sl (Below w1.heap.size w1 wk) := ⟨below_mv HE.out hm (by have := HE.out.size; have := ORD.out; have := HG.out; omega) HE.out.size⟩; replace XN : Sl (wk.ownsRow wd.heap.size 3 1 (.slice (some ⟨gn, 0, none⟩) 3 cn) 3 ([.int .i64 24, .int .i64 19, .int .i64 24])) := ⟨hown⟩; clear hm hsz hown)))
  all_goals (
    clear y0 y1 y2 y3 n0 n1 n2
    have y0 := XW.out.cellAt 0 (by decide)
    have y1 := XW.out.cellAt 1 (by decide)
    have y2 := XW.out.cellAt 2 (by decide)
    have y3 := XW.out.cellAt 3 (by decide)
    simp [two2] at y0 y1 y2 y3
    have n0 := XN.out.cellAt 0 (by decide)
    have n1 := XN.out.cellAt 1 (by decide)
    have n2 := XN.out.cellAt 2 (by decide)
    simp at n0 n1 n2
    rw [rounds_succ]
    go_wp2_with fail
    have PRV : Sl (gb < wk.heap.size) := ⟨xform_lt Xb.out⟩
    clear n0 n1 n2
    refine (cloneOwn_any wd.heap.size gn cn [24, 19, 24] wk (by decide) (by decide) XN.out).mono ?_; rintro e wl ⟨gq, cq, rfl, hown, hgr, hb⟩
    replace X0 : Sl (Blk wl w.heap.size 34 #[.int .i64 0, .int .i64 0, .slice none 0 0]) := ⟨X0.out.mv (Mv.of_below hb) (by have := ORD.out; have := X0.out.lt; omega)⟩
    replace XX : Sl (Blk wl gx 34 #[.int .i64 36, .int .i64 96, .slice (some ⟨gb, 0, none⟩) 1 cb]) := ⟨XX.out.mv (Mv.of_below hb) (by have := ORD.out; have := XX.out.lt; omega)⟩
    replace XW : Sl (wl.ownsRow w1.heap.size 93 2 (.slice (some ⟨g, 0, none⟩) 2 cap) 2 (two2 2 85 1 90)) := ⟨own_mv XW.out (Mv.of_below hb) (fun k hk => xblk_ne hk (by have := ORD.out; have := xform_lt XW.out; omega))⟩
    replace XN : Sl (wl.ownsRow wd.heap.size 3 1 (.slice (some ⟨gn, 0, none⟩) 3 cn) 3 ([.int .i64 24, .int .i64 19, .int .i64 24])) := ⟨own_mv XN.out (Mv.of_below hb) (fun k hk => xblk_ne hk (by have := ORD.out; have := xform_lt XN.out; omega))⟩
    replace Xr : Sl (wl.ownsRow we.heap.size 3 1 (.slice (some ⟨gr, 0, none⟩) 3 cr) 3 ([.int .i64 24, .int .i64 31, .int .i64 36])) := ⟨own_mv Xr.out (Mv.of_below hb) (fun k hk => xblk_ne hk (by have := ORD.out; have := xform_lt Xr.out; omega))⟩
    replace Xb : Sl (wl.ownsRow wg.heap.size 59 2 (.slice (some ⟨gb, 0, none⟩) 1 cb) 1 ([.int .i64 36, .slice (some ⟨gr, 0, none⟩) 3 cr])) := ⟨own_mv Xb.out (Mv.of_below hb) (fun k hk => xblk_ne hk (by have := ORD.out; have := xform_lt Xb.out; omega))⟩
    replace HWS : Sl (wg.heap.size ≤ wl.heap.size) := ⟨Nat.le_trans HWS.out (Mv.size (Mv.of_below hb))⟩
    replace HE : Sl (Below w1.heap.size w1 wl) := ⟨below_mv HE.out (Mv.of_below hb) (by have := HE.out.size; have := ORD.out; have := HG.out; omega) HE.out.size⟩
    have Xq : Sl (wl.ownsRow wk.heap.size 3 1 (.slice (some ⟨gq, 0, none⟩) 3 cq) 3 ([24, 19, 24].map iv)) := ⟨hown⟩
    have ORD2 : Sl (w.heap.size < g ∧ g < gx ∧ gx < gn ∧ gn < gr ∧ gr < gb ∧ gb < gq) := ⟨by have := ORD.out; have := PRV.out; omega⟩
    have HSq : Sl (wk.heap.size ≤ wl.heap.size) := ⟨hb.size⟩
    clear hown hgr hb ORD PRV
    have ORD := ORD2
    clear ORD2 y0 y1 y2 y3
    go_wp2_with fail
    refine (sortOwn_any wk.heap.size gq cq [24, 19, 24] wl (by decide) (by decide) Xq.out HSq.out).mono ?_; rintro e wm ⟨rfl, hown, hm⟩
    replace X0 : Sl (Blk wm w.heap.size 34 #[.int .i64 0, .int .i64 0, .slice none 0 0]) := ⟨X0.out.mv hm (by have := ORD.out; have := X0.out.lt; omega)⟩
    replace XX : Sl (Blk wm gx 34 #[.int .i64 36, .int .i64 96, .slice (some ⟨gb, 0, none⟩) 1 cb]) := ⟨XX.out.mv hm (by have := ORD.out; have := XX.out.lt; omega)⟩
    replace XW : Sl (wm.ownsRow w1.heap.size 93 2 (.slice (some ⟨g, 0, none⟩) 2 cap) 2 (two2 2 85 1 90)) := ⟨own_mv XW.out hm (fun k hk => xblk_ne hk (by have := ORD.out; have := xform_lt XW.out; omega))⟩
    replace XN : Sl (wm.ownsRow wd.heap.size 3 1 (.slice (some ⟨gn, 0, none⟩) 3 cn) 3 ([.int .i64 24, .int .i64 19, .int .i64 24])) := ⟨own_mv XN.out hm (fun k hk => xblk_ne hk (by have := ORD.out; have := xform_lt XN.out; omega))⟩
    replace Xr : Sl (wm.ownsRow we.heap.size 3 1 (.slice (some ⟨gr, 0, none⟩) 3 cr) 3 ([.int .i64 24, .int .i64 31, .int .i64 36])) := ⟨own_mv Xr.out hm (fun k hk => xblk_ne hk (by have := ORD.out; have := xform_lt Xr.out; omega))⟩
    replace Xb : Sl (wm.ownsRow wg.heap.size 59 2 (.slice (some ⟨gb, 0, none⟩) 1 cb) 1 ([.int .i64 36, .slice (some ⟨gr, 0, none⟩) 3 cr])) := ⟨own_mv Xb.out hm (fun k hk => xblk_ne hk (by have := ORD.out; have := xform_lt Xb.out; omega))⟩
    replace HWS : Sl (wg.heap.size ≤ wm.heap.size) := ⟨Nat.le_trans HWS.out (Mv.size hm)⟩
    replace HE : Sl (Below w1.heap.size w1 wm) := ⟨below_mv HE.out hm (by have := HE.out.size; have := ORD.out; have := HG.out; omega) HE.out.size⟩
    replace Xq : Sl (wm.ownsRow wk.heap.size 3 1 (.slice (some ⟨gq, 0, none⟩) 3 cq) 3 ([.int .i64 19, .int .i64 24, .int .i64 24])) := ⟨hown⟩
    clear hown hm HSq
    have z0 := Xq.out.cellAt 0 (by decide)
    simp at z0
    have x2 := XX.out.cell 2
    simp at x2
    go_wp2_with ((with_reducible show wpList _ _ _ _ _ _); first
      | (at_builtin; (refine wpList_append_any _ rfl (.tmp 125) (.tmp 129) _ rfl wg.heap.size 59 i1 z1 2 32 Tryz.underlying32 HJ.out.1 HJ.out.2.1 HJ.out.2.2.1 HJ.out.2.2.2.1 HJ.out.2.2.2.2 (by decide) (.slice (some ⟨gb, 0, none⟩) 1 cb) 1 [.int .i64 36, .slice (some ⟨gr, 0, none⟩) 3 cr] rfl (xown_alloc Xb.out _) _ (some ⟨wm.heap.size, 0, none⟩) 1 1 [.int .i64 85, .slice (some ⟨gq, 0, none⟩) 3 cq] rfl (xreads2 _ _ _ _) (by intro u hu; simp at hu; rcases hu with rfl | rfl <;> rfl) (by unfold maxLen; omega) (by omega) (by have := HWS.out; (first | (simp; done) | (simp; omega))) ?_; rintro v_gc wn hown hg hat; obtain ⟨gc, cc, rfl, hgb, hgl⟩ := hown.form (by decide); have hm : Mv gb wm wn := Mv.trans (Mv.below ((Below.refl _ _).alloc (Nat.le_refl _) _)) (Mv.of_grown hg (fun k hk => (by simpa [Value.ownBlock] using hk : gb = k).symm)); replace X0 : Sl (Blk wn w.heap.size 34 #[.int .i64 0, .int .i64 0, .slice none 0 0]) := ⟨X0.out.mv hm (by have := ORD.out; have := X0.out.lt; omega)⟩; replace XX : Sl (Blk wn gx 34 #[.int .i64 36, .int .i64 96, .slice (some ⟨gb, 0, none⟩) 1 cb]) := ⟨XX.out.mv hm (by have := ORD.out; have := XX.out.lt; omega)⟩; replace XW : Sl (wn.ownsRow w1.heap.size 93 2 (.slice (some ⟨g, 0, none⟩) 2 cap) 2 (two2 2 85 1 90)) := ⟨own_mv XW.out hm (fun k hk => xblk_ne hk (by have := ORD.out; have := xform_lt XW.out; omega))⟩; replace XN : Sl (wn.ownsRow wd.heap.size 3 1 (.slice (some ⟨gn, 0, none⟩) 3 cn) 3 ([.int .i64 24, .int .i64 19, .int .i64 24])) := ⟨own_mv XN.out hm (fun k hk => xblk_ne hk (by have := ORD.out; have := xform_lt XN.out; omega))⟩; replace Xr : Sl (wn.ownsRow we.heap.size 3 1 (.slice (some ⟨gr, 0, none⟩) 3 cr) 3 ([.int .i64 24, .int .i64 31, .int .i64 36])) := ⟨own_mv Xr.out hm (fun k hk => xblk_ne hk (by have := ORD.out; have := xform_lt Xr.out; omega))⟩; replace Xq : Sl (wn.ownsRow wk.heap.size 3 1 (.slice (some ⟨gq, 0, none⟩) 3 cq) 3 ([.int .i64 19, .int .i64 24, .int .i64 24])) := ⟨own_mv Xq.out hm (fun k hk => xblk_ne hk (by have := ORD.out; have := xform_lt Xq.out; omega))⟩; replace HWS : Sl (wg.heap.size ≤ wn.heap.size) := ⟨Nat.le_trans HWS.out (Mv.size hm)⟩; replace HE : Sl (Below w1.heap.size w1 wn) := ⟨below_mv HE.out hm (by have := HE.out.size; have := ORD.out; have := HG.out; omega) HE.out.size⟩; have Xc : Sl (wn.ownsRow wg.heap.size 59 2 (.slice (some ⟨gc, 0, none⟩) 2 cc) 2 [.int .i64 36, .slice (some ⟨gr, 0, none⟩) 3 cr, .int .i64 85, .slice (some ⟨gq, 0, none⟩) 3 cq]) := ⟨hown⟩; have ORDB : Sl (gr < gc) := ⟨by have := HWG.out; omega⟩; clear Xb hown hg hat hgb hgl hm x2 z0))
      | ((refine wpList_store_cell rfl 32 (.tmp 131) (.tmp 130) rfl gx 2 (.slice (some ⟨gc, 0, none⟩) 2 cc) rfl rfl 34 #[.int .i64 36, .int .i64 96, .slice (some ⟨gb, 0, none⟩) 1 cb] #[.int .i64 36, .int .i64 96, .slice (some ⟨gc, 0, none⟩) 2 cc] XX.out (Nat.le_refl 3) rfl size_brks rfl rfl ?_; rintro wo hm hsz hbk hqq; clear hqq; replace X0 : Sl (Blk wo w.heap.size 34 #[.int .i64 0, .int .i64 0, .slice none 0 0]) := ⟨X0.out.mv hm (by have := ORD.out; have := X0.out.lt; omega)⟩; replace XW : Sl (wo.ownsRow w1.heap.size 93 2 (.slice (some ⟨g, 0, none⟩) 2 cap) 2 (two2 2 85 1 90)) := ⟨own_mv XW.out hm (fun k hk => xblk_ne hk (by have := ORD.out; have := ORDB.out; have := xform_lt XW.out; omega))⟩; replace XN : Sl (wo.ownsRow wd.heap.size 3 1 (.slice (some ⟨gn, 0, none⟩) 3 cn) 3 ([.int .i64 24, .int .i64 19, .int .i64 24])) := ⟨own_mv XN.out hm (fun k hk => xblk_ne hk (by have := ORD.out; have := ORDB.out; have := xform_lt XN.out; omega))⟩; replace Xr : Sl (wo.ownsRow we.heap.size 3 1 (.slice (some ⟨gr, 0, none⟩) 3 cr) 3 ([.int .i64 24, .int .i64 31, .int .i64 36])) := ⟨own_mv Xr.out hm (fun k hk => xblk_ne hk (by have := ORD.out; have := ORDB.out; have := xform_lt Xr.out; omega))⟩; replace Xq : Sl (wo.ownsRow wk.heap.size 3 1 (.slice (some ⟨gq, 0, none⟩) 3 cq) 3 ([.int .i64 19, .int .i64 24, .int .i64 24])) := ⟨own_mv Xq.out hm (fun k hk => xblk_ne hk (by have := ORD.out; have := ORDB.out; have := xform_lt Xq.out; omega))⟩; replace Xc : Sl (wo.ownsRow wg.heap.size 59 2 (.slice (some ⟨gc, 0, none⟩) 2 cc) 2 ([.int .i64 36, .slice (some ⟨gr, 0, none⟩) 3 cr, .int .i64 85, .slice (some ⟨gq, 0, none⟩) 3 cq])) := ⟨own_mv Xc.out hm (fun k hk => xblk_ne hk (by have := ORD.out; have := ORDB.out; have := xform_lt Xc.out; omega))⟩; replace HWS : Sl (wg.heap.size ≤ wo.heap.size) := ⟨Nat.le_trans HWS.out (Mv.size hm)⟩; replace HE : Sl (Below w1.heap.size w1 wo) := ⟨below_mv HE.out hm (by have := HE.out.size; have := ORD.out; have := HG.out; omega) HE.out.size⟩; replace XX : Sl (Blk wo gx 34 #[.int .i64 36, .int .i64 96, .slice (some ⟨gc, 0, none⟩) 2 cc]) := ⟨hbk⟩; clear hm hsz hbk; have x0 := XX.out.cell 0; have x1 := XX.out.cell 1; have x2 := XX.out.cell 2; simp at x0 x1 x2))
      | ((refine wpList_store_whole rfl 34 (.tmp 10) (.tmp 140) rfl w.heap.size #[.int .i64 36, .int .i64 96, .slice (some ⟨gc, 0, none⟩) 2 cc] rfl rfl 34 #[.int .i64 0, .int .i64 0, .slice none 0 0] X0.out rfl size_mx (by simp [Value.oneCell']) ?_; rintro wz hm hsz hbk; have HZ : Sl (Below w.heap.size w wz) := ⟨below_mv (HU.out.trans (HE.out.mono HU.out.size)) hm (Nat.le_refl _) (Nat.le_trans HU.out.size HE.out.size)⟩; replace Xr : Sl (wz.ownsRow we.heap.size 3 1 (.slice (some ⟨gr, 0, none⟩) 3 cr) 3 ([.int .i64 24, .int .i64 31, .int .i64 36])) := ⟨own_mv Xr.out hm (fun k hk => xblk_ne hk (by have := ORD.out; have := ORDB.out; omega))⟩; replace Xq : Sl (wz.ownsRow wk.heap.size 3 1 (.slice (some ⟨gq, 0, none⟩) 3 cq) 3 ([.int .i64 19, .int .i64 24, .int .i64 24])) := ⟨own_mv Xq.out hm (fun k hk => xblk_ne hk (by have := ORD.out; have := ORDB.out; omega))⟩; replace Xc : Sl (wz.ownsRow wg.heap.size 59 2 (.slice (some ⟨gc, 0, none⟩) 2 cc) 2 ([.int .i64 36, .slice (some ⟨gr, 0, none⟩) 3 cr, .int .i64 85, .slice (some ⟨gq, 0, none⟩) 3 cq])) := ⟨own_mv Xc.out hm (fun k hk => xblk_ne hk (by have := ORD.out; have := ORDB.out; omega))⟩; replace X0 : Sl (Blk wz w.heap.size 34 #[.int .i64 36, .int .i64 96, .slice (some ⟨gc, 0, none⟩) 2 cc]) := ⟨hbk⟩; clear hm hsz hbk)))
    refine bodyPost_ret (results_row2m rfl _ _ w.heap.size _ _ _ rfl X0.out Tryz.underlying34 rfl (by kernel_rfl)) rfl ?_
    refine ⟨⟨gc, cc, some ⟨gr, 0, none⟩, cr, some ⟨gq, 0, none⟩, cq, rfl, ⟨rfl, Reads.of_own Xc.out, fun k hk => ?_⟩⟩, HZ.out⟩
    simp only [List.mem_cons, List.not_mem_nil, or_false] at hk
    rcases hk with rfl | rfl
    · exact ⟨rfl, Reads.of_own Xr.out⟩
    · exact ⟨rfl, Reads.of_own Xq.out⟩)
end Go.Proofs.YtafadpaljanghaaGreatDoor
