/- Package mixtures: by, two lowerings out of order: slices.SortStableFunc puts them in order. -/
import Derived.Test.YtafadpaljanghaaGreatDoorMyX
import Derived.Deep.RegionHeld3
import Derived.BigRegion
import Derived.LoopN
namespace Go.Proofs.YtafadpaljanghaaGreatDoor
set_option linter.unusedSimpArgs false
open Go.RowKit
set_option linter.unusedVariables false

theorem plan1_any (r d : Int) (w : World) : Calls Tryz.prog 49 #[.agg #[.int .i64 r, .int .i64 d]] w fun e w' => e = .returned (.int .i64 d) ∧ Below w.heap.size w w' := by
  have HU : Sl (Below w.heap.size w (w.alloc (.cells #[.int .i64 r, .int .i64 d] 93))) := ⟨(Below.refl _ _).alloc (Nat.le_refl _) _⟩
  go_enter Tryz.func49, Tryz.ntmps49
  go_wp2_with fail
  go_ret
  exact ⟨rfl, HU.out⟩
set_option maxHeartbeats 3200000 in
set_option maxRecDepth 100000 in
theorem by1_any (gf : Nat) (r d s t : Int) (w : World) (hf : Blk w gf 95 #[.func (.func 49) #[] #[]]) :
    Calls Tryz.prog 73 #[.agg #[.int .i64 r, .int .i64 d], .agg #[.int .i64 s, .int .i64 t], .pointer (some ⟨gf, 0, none⟩)] w fun e w' => e = .returned (.int .i64 (Lib.compareInt d t)) ∧ Below w.heap.size w w' := by
  have hrun : ∀ (args : Array Value) (w : World), (callFunc 49 args).run Tryz.prog w = .ok (.enter 49 args) w := fun a w => by go_simp
  have b1 := Blk.new w 93 #[.int .i64 r, .int .i64 d]
  have u1 := (Below.refl w.heap.size w).alloc (Nat.le_refl _) (.cells #[.int .i64 r, .int .i64 d] 93)
  have f1 := hf.alloc (.cells #[.int .i64 r, .int .i64 d] 93)
  have s1 : (w.alloc (.cells #[.int .i64 r, .int .i64 d] 93)).heap.size = w.heap.size + 1 := by simp
  have b2 := Blk.new (w.alloc (.cells #[.int .i64 r, .int .i64 d] 93)) 93 #[.int .i64 s, .int .i64 t]
  have b1' := b1.alloc (.cells #[.int .i64 s, .int .i64 t] 93)
  have f2 := f1.alloc (.cells #[.int .i64 s, .int .i64 t] 93)
  have u2 := u1.alloc (by rw [s1]; omega) (.cells #[.int .i64 s, .int .i64 t] 93)
  rw [s1] at b2
  clear b1 f1 u1 s1 hf
  have HCM : Sl _ := ⟨fun W : World => Tryz.cmp_Compare_int d t W⟩
  obtain ⟨c, hc⟩ : ∃ c, Lib.compareInt d t = c := ⟨_, rfl⟩
  rw [hc] at HCM ⊢
  clear hc
  have HU : Sl _ := ⟨u2⟩
  have HBL : Sl _ := ⟨And.intro b1' (And.intro b2 f2)⟩
  clear b1' b2 f2 u2
  go_enter Tryz.func73, Tryz.ntmps73
  go_wp2_with fail
  generalize (w.alloc (.cells #[.int .i64 r, .int .i64 d] 93)).alloc (.cells #[.int .i64 s, .int .i64 t] 93) = w0 at *
  have hS : Sl (∀ w' : World, RowKit.Below w0.heap.size w0 w' → w'.cell? ⟨w.heap.size, 0, none⟩ = some (.int .i64 r) ∧ w'.cell? ⟨w.heap.size, 1, none⟩ = some (.int .i64 d) ∧ w'.cell? ⟨w.heap.size + 1, 0, none⟩ = some (.int .i64 s) ∧ w'.cell? ⟨w.heap.size + 1, 1, none⟩ = some (.int .i64 t) ∧ w'.cell? ⟨gf, 0, none⟩ = some (.func (.func 49) #[] #[]) ∧ RowKit.Below w0.heap.size w0 w') := ⟨fun w' h => by
    have e0 := HBL.out.1.below h HBL.out.1.lt
    have e1 := HBL.out.2.1.below h HBL.out.2.1.lt
    have e2 := HBL.out.2.2.below h HBL.out.2.2.lt
    exact ⟨by rw [e0.cell]; rfl, by rw [e0.cell]; rfl, by rw [e1.cell]; rfl, by rw [e1.cell]; rfl, by rw [e2.cell]; rfl, h⟩⟩
  have T1 : Sl (∀ (x y : Int) (W : World), RowKit.Below w0.heap.size w0 W → Calls Tryz.prog 49 #[.agg #[.int .i64 x, .int .i64 y]] W fun e w' => e = .returned (.int .i64 y) ∧ RowKit.Below w0.heap.size w0 w') := ⟨fun x y W h => (plan1_any x y W).mono fun e w' g => ⟨g.1, h.trans (g.2.mono h.size)⟩⟩
  obtain ⟨q1, q2, q3, q4, q5, q6⟩ := hS.out w0 (Below.refl _ _)
  have q6d : RowKit.Below w0.heap.size w0 w0.drew := below_drewN q6 1
  go_region_held3 (fun w' => w'.cell? ⟨w.heap.size, 0, none⟩ = some (.int .i64 r) ∧ w'.cell? ⟨w.heap.size, 1, none⟩ = some (.int .i64 d) ∧ w'.cell? ⟨w.heap.size + 1, 0, none⟩ = some (.int .i64 s) ∧ w'.cell? ⟨w.heap.size + 1, 1, none⟩ = some (.int .i64 t) ∧ w'.cell? ⟨gf, 0, none⟩ = some (.func (.func 49) #[] #[]) ∧ RowKit.Below w0.heap.size w0 w')
    (first | exact hS.out _ (by assumption) | go_keep)
    (first
      | (go_at_call 49; (with_reducible refine (T1.out r d _ (by (go_split_ands; assumption))).mono ?_); rintro e w2 ⟨rfl, hb2⟩)
      | (go_at_call 49; (with_reducible refine (T1.out s t _ (by (go_split_ands; assumption))).mono ?_); rintro e w3 ⟨rfl, hb3⟩)
      | (go_at_call 45; (with_reducible refine (HCM.out _).mono ?_); rintro e w4 ⟨rfl, rfl⟩))
  all_goals (
    have hz : RowKit.Below w0.heap.size w0 w4 := by (go_split_ands; assumption)
    clear hS T1 q1 q2 q3 q4 q5 q6 q6d HBL
    go_wp2_with fail
    go_ret
    exact ⟨rfl, HU.out.trans (hz.mono HU.out.size)⟩)
/-- two lowerings -/
def two2 (r d s t : Int) : List Value := [.int .i64 r, .int .i64 d, .int .i64 s, .int .i64 t]
theorem size_low : (Tryz.prog.info? 93).map (·.size) = some 2 := by kernel_rfl
theorem rangeAt2 {w : World} {g o : Nat} {u v : Value} (h0 : w.cell? ⟨g, o, none⟩ = some u) (h1 : w.cell? ⟨g, o + 1, none⟩ = some v) : w.rangeAt g o (#[u, v] : Array Value).toList := by
  intro j x hx
  rcases j with _ | _ | j
  · simp at hx; subst hx; exact h0
  · simp at hx; subst hx; exact h1
  · simp at hx
set_option maxHeartbeats 6400000 in
set_option maxRecDepth 100000 in
theorem isort2_any (base g cap gf : Nat) (r d s t : Int) (w : World) (hts : t < d) (hown : w.ownsRow base 93 2 (.slice (some ⟨g, 0, none⟩) 2 cap) 2 (two2 r d s t)) (hf : Blk w gf 95 #[.func (.func 49) #[] #[]]) (hb : base ≤ w.heap.size) :
    Calls Tryz.prog 114 #[.slice (some ⟨g, 0, none⟩) 2 cap, .int .i64 0, .int .i64 2, .func (.func 73) #[] #[.pointer (some ⟨gf, 0, none⟩)]] w fun e w' => e = .returned (.tuple #[]) ∧ w'.ownsRow base 93 2 (.slice (some ⟨g, 0, none⟩) 2 cap) 2 (two2 s t r d) ∧ Below base w w' := by
  have hrun : ∀ (args : Array Value) (w : World), (callFunc 73 args).run Tryz.prog w = .ok (.enter 73 args) w := fun a w => by go_simp
  have hw0 : IntKind.i64.wrap 0 = 0 := by decide
  have HOWN : Sl _ := ⟨hown⟩
  have HF : Sl _ := ⟨hf⟩
  have HB0 : Sl (Below base w w) := ⟨Below.refl _ _⟩
  have HBS : Sl _ := ⟨hb⟩
  have HG : Sl (base ≤ g ∧ g < w.heap.size) := ⟨by obtain ⟨g', c', e, h1, h2⟩ := hown.form (by decide); injection e with e; injection e with e; injection e with e; subst e; exact ⟨h1, h2⟩⟩
  have HC : Sl (Lib.compareInt t d < 0) := ⟨(cmpi_lt t d).2 hts⟩
  clear hown hf hb hts
  have HS : Sl (∀ w' : World, RowKit.Below w.heap.size w w' → w'.cell? ⟨g, 0, none⟩ = some (.int .i64 r) ∧ w'.cell? ⟨g, 1, none⟩ = some (.int .i64 d) ∧ w'.cell? ⟨g, 2, none⟩ = some (.int .i64 s) ∧ w'.cell? ⟨g, 3, none⟩ = some (.int .i64 t) ∧ RowKit.Below w.heap.size w w') := ⟨fun w' h => by
    have q := fun j hj => HOWN.out.cellAt j hj
    have e : ∀ j, w'.cell? ⟨g, j, none⟩ = w.cell? ⟨g, j, none⟩ := fun j => h.cell (p := ⟨g, j, none⟩) HG.out.2
    exact ⟨by rw [e, q 0 (by decide)]; rfl, by rw [e, q 1 (by decide)]; rfl, by rw [e, q 2 (by decide)]; rfl, by rw [e, q 3 (by decide)]; rfl, h⟩⟩
  obtain ⟨c, hc⟩ : ∃ c, Lib.compareInt t d = c := ⟨_, rfl⟩
  have HCC : Sl _ := ⟨hc⟩
  have hc0 := HC.out
  rw [hc] at hc0
  have hcd : decide (c < 0) = true := decide_eq_true hc0
  have TC : Sl (∀ (W : World), RowKit.Below w.heap.size w W → Calls Tryz.prog 73 #[.agg #[.int .i64 s, .int .i64 t], .agg #[.int .i64 r, .int .i64 d], .pointer (some ⟨gf, 0, none⟩)] W fun e w' => e = .returned (.int .i64 c) ∧ RowKit.Below w.heap.size w w') := ⟨fun W h => by
    have := by1_any gf s t r d W (HF.out.below h HF.out.lt)
    rw [HCC.out] at this
    exact this.mono fun e w' g => ⟨g.1, h.trans (g.2.mono h.size)⟩⟩
  clear hc
  go_enter Tryz.func114, Tryz.ntmps114
  go_wp2_with fail
  refine wp_loop_rounds 2 ?_
  rw [rounds_succ]
  go_wp2_with fail
  refine wp_loop_rounds 2 ?_
  rw [rounds_succ]
  go_wp2_with fail
  have HR : Sl ((∀ w' : World, Mv w.heap.size w w' → w'.rangeAt g 0 (#[.int .i64 r, .int .i64 d] : Array Value).toList) ∧ (∀ w' : World, Mv w.heap.size w w' → w'.rangeAt g 2 (#[.int .i64 s, .int .i64 t] : Array Value).toList)) := ⟨by
    have e : ∀ w' : World, Mv w.heap.size w w' → ∀ j, w'.cell? ⟨g, j, none⟩ = w.cell? ⟨g, j, none⟩ := fun w' h j => World.cell?_of_block (h.block g HG.out.2 (by have := HG.out.2; omega))
    obtain ⟨q1, q2, q3, q4, _⟩ := HS.out w (Below.refl _ _)
    exact ⟨fun w' h => rangeAt2 (by rw [e w' h]; exact q1) (by rw [e w' h]; exact q2), fun w' h => rangeAt2 (by rw [e w' h]; exact q3) (by rw [e w' h]; exact q4)⟩⟩
  have hm : Mv w.heap.size w w.drew := Mv.drew _ _
  have HSW : Sl (RowKit.Below w.heap.size w w.drew) := ⟨below_drewN (Below.refl _ _) 1⟩
  refine wp_region_held_drew (S := fun w' => Mv w.heap.size w w') (by kernel_rfl) hm (fun hHeld => ?_)
  clear hm
  refine wpAnyH_pure 0 (v := .int .i64 1) rfl (by kernel_rfl) (by kernel_rfl) (by kernel_rfl) (fun _ _ _ h => h) rfl (fun _ => rfl) (by assumption) ?_
  simp only [Act.put, sS0, sS1, sS2]
  refine wpAnyH_pure 1 (v := .int .i64 0) rfl (by kernel_rfl) (by kernel_rfl) (by kernel_rfl) (fun _ _ _ h => h) rfl (fun _ => rfl) (by assumption) ?_
  simp only [Act.put, sS0, sS1, sS2]
  refine wpAnyH_pure 2 (v := .bool true) rfl (by kernel_rfl) (by kernel_rfl) (by kernel_rfl) (fun _ _ _ h => h) rfl (fun _ => by go_simp) (by assumption) ?_
  simp only [Act.put, sS0, sS1, sS2]
  refine wpAnyH_pure 3 (v := .bool true) rfl (by kernel_rfl) (by kernel_rfl) (by kernel_rfl) (fun _ _ _ h => h) rfl (fun _ => rfl) (by assumption) ?_
  simp only [Act.put, sS0, sS1, sS2]
  refine wpAnyH_pureg 4 (v := .func (.func 73) #[] #[.pointer (some ⟨gf, 0, none⟩)]) rfl (by kernel_rfl) (by kernel_rfl) (by kernel_rfl) (fun _ _ _ h => h) (by rfl) (fun _ => rfl) (by assumption) ?_
  simp only [Act.put, sS0, sS1, sS2]
  refine wpAnyH_pureg 5 (v := .slice (some ⟨g, 0, none⟩) 2 cap) rfl (by kernel_rfl) (by kernel_rfl) (by kernel_rfl) (fun _ _ _ h => h) (by rfl) (fun _ => rfl) (by assumption) ?_
  simp only [Act.put, sS0, sS1, sS2]
  refine wpAnyH_pureg 6 (v := .int .i64 1) rfl (by kernel_rfl) (by kernel_rfl) (by kernel_rfl) (fun _ _ _ h => h) (by rfl) (fun _ => rfl) (by assumption) ?_
  simp only [Act.put, sS0, sS1, sS2]
  refine wpAnyH_pureg 7 (v := .pointer (some ⟨g, 2, none⟩)) rfl (by kernel_rfl) (by kernel_rfl) (by kernel_rfl) (fun _ _ _ h => h) (by rfl) (fun _ => by go_simp) (by assumption) ?_
  simp only [Act.put, sS0, sS1, sS2]
  refine wpAnyH_loadg 8 93 (.tmp 25) rfl rfl (by rfl) g (2) rfl (#[.int .i64 s, .int .i64 t]) _ (fun w' h => HR.out.2 w' h) Tryz.underlying93 rfl size_low (by kernel_rfl) (by kernel_rfl) (by kernel_rfl) (fun _ _ _ h => h) (by assumption) ?_
  simp only [Act.put, sS0, sS1, sS2]
  refine wpAnyH_pureg 9 (v := .slice (some ⟨g, 0, none⟩) 2 cap) rfl (by kernel_rfl) (by kernel_rfl) (by kernel_rfl) (fun _ _ _ h => h) (by rfl) (fun _ => rfl) (by assumption) ?_
  simp only [Act.put, sS0, sS1, sS2]
  refine wpAnyH_pureg 10 (v := .int .i64 1) rfl (by kernel_rfl) (by kernel_rfl) (by kernel_rfl) (fun _ _ _ h => h) (by rfl) (fun _ => rfl) (by assumption) ?_
  simp only [Act.put, sS0, sS1, sS2]
  refine wpAnyH_pureg 11 (v := .int .i64 0) rfl (by kernel_rfl) (by kernel_rfl) (by kernel_rfl) (fun _ _ _ h => h) (by rfl) (fun _ => by go_simp) (by assumption) ?_
  simp only [Act.put, sS0, sS1, sS2]
  refine wpAnyH_pureg 12 (v := .pointer (some ⟨g, 0, none⟩)) rfl (by kernel_rfl) (by kernel_rfl) (by kernel_rfl) (fun _ _ _ h => h) (by rfl) (fun _ => by go_simp) (by assumption) ?_
  simp only [Act.put, sS0, sS1, sS2]
  refine wpAnyH_loadg 13 93 (.tmp 30) rfl rfl (by rfl) g (0) rfl (#[.int .i64 r, .int .i64 d]) _ (fun w' h => HR.out.1 w' h) Tryz.underlying93 rfl size_low (by kernel_rfl) (by kernel_rfl) (by kernel_rfl) (fun _ _ _ h => h) (by assumption) ?_
  simp only [Act.put, sS0, sS1, sS2]
  refine wpAnyH_onew 14 rfl (by kernel_rfl) (by rfl) (fun K hK => ?_)
  go_simp
  go_at_call 73
  (with_reducible refine (TC.out _ HSW.out).mono ?_)
  rintro e w2 ⟨rfl, hb⟩
  replace HSW : Sl (RowKit.Below w.heap.size w w2) := ⟨hb⟩
  refine hK.out _ _ (Mv.below HSW.out) (fun hHeld => ?_)
  clear hK K hb
  (try simp only [Act.put, sS0, sS1, sS2])
  refine wpAnyH_pureg 15 (v := .bool true) rfl (by kernel_rfl) (by kernel_rfl) (by kernel_rfl) (fun _ _ _ h => h) (by rfl) (fun _ => by go_simp) (by assumption) ?_
  simp only [Act.put, sS0, sS1, sS2]
  refine wpAnyH_pure 16 (v := .bool true) rfl (by kernel_rfl) (by kernel_rfl) (by kernel_rfl) (fun _ _ _ h => h) rfl (fun _ => by go_simp) (by assumption) ?_
  simp only [Act.put, sS0, sS1, sS2]
  refine wpAnyH_done (by kernel_rfl) ?_ _
  clear hHeld
  obtain ⟨q1, q2, q3, q4, q6⟩ := HS.out w2 HSW.out
  have HOW2 : Sl (w2.ownsRow base 93 2 (.slice (some ⟨g, 0, none⟩) 2 cap) 2 (two2 r d s t)) := ⟨own_mv HOWN.out (Mv.of_below HSW.out) (fun k hk => by
    have e : g = k := by simpa [Value.ownBlock] using hk
    have := HG.out.2; omega)⟩
  have f0 := HOW2.out.frozenAt 0
  have f1 := HOW2.out.frozenAt 1
  have f2 := HOW2.out.frozenAt 2
  have f3 := HOW2.out.frozenAt 3
  clear HS HR TC hcd q6
  have HB2 : Sl (Below base w w2) := ⟨HSW.out.mono HBS.out⟩
  clear HSW HC HCC hc0
  go_wp2_with fail
  go_region
  have HOW3 : Sl (((((w2.setCell ⟨g, 2, none⟩ (.int .i64 r)).setCell ⟨g, 3, none⟩ (.int .i64 d)).setCell ⟨g, 0, none⟩ (.int .i64 s)).setCell ⟨g, 1, none⟩ (.int .i64 t)).ownsRow base 93 2 (.slice (some ⟨g, 0, none⟩) 2 cap) 2 (two2 s t r d)) := ⟨by
    have h1 := (HOW2.out.stored 2 (.int .i64 r)).1
    have h2 := (h1.stored 3 (.int .i64 d)).1
    have h3 := (h2.stored 0 (.int .i64 s)).1
    exact (h3.stored 1 (.int .i64 t)).1⟩
  have HB3 : Sl (Below base w ((((w2.setCell ⟨g, 2, none⟩ (.int .i64 r)).setCell ⟨g, 3, none⟩ (.int .i64 d)).setCell ⟨g, 0, none⟩ (.int .i64 s)).setCell ⟨g, 1, none⟩ (.int .i64 t))) := ⟨(((HB2.out.setCell HG.out.1 _).setCell HG.out.1 _).setCell HG.out.1 _).setCell HG.out.1 _⟩
  clear q1 q2 q3 q4 f0 f1 f2 f3
  generalize (((w2.setCell ⟨g, 2, none⟩ (.int .i64 r)).setCell ⟨g, 3, none⟩ (.int .i64 d)).setCell ⟨g, 0, none⟩ (.int .i64 s)).setCell ⟨g, 1, none⟩ (.int .i64 t) = w3 at *
  go_wp2_with fail
  rw [rounds_succ]
  go_wp2_with fail
  go_quiet (fail)
  go_wp2_with fail
  rw [rounds_succ]
  go_wp2_with fail
  go_end0
  exact ⟨rfl, HOW3.out, below_drewN HB3.out _⟩
set_option maxHeartbeats 3200000 in
set_option maxRecDepth 100000 in
theorem stable2_any (base g cap gf : Nat) (r d s t : Int) (w : World) (hts : t < d) (hown : w.ownsRow base 93 2 (.slice (some ⟨g, 0, none⟩) 2 cap) 2 (two2 r d s t)) (hf : Blk w gf 95 #[.func (.func 49) #[] #[]]) (hb : base ≤ w.heap.size) :
    Calls Tryz.prog 93 #[.slice (some ⟨g, 0, none⟩) 2 cap, .int .i64 2, .func (.func 73) #[] #[.pointer (some ⟨gf, 0, none⟩)]] w fun e w' => e = .returned (.tuple #[]) ∧ w'.ownsRow base 93 2 (.slice (some ⟨g, 0, none⟩) 2 cap) 2 (two2 s t r d) ∧ Below base w w' := by
  have HI : Sl _ := ⟨isort2_any base g cap gf r d s t w hts hown hf hb⟩
  clear hown hf hb hts
  go_enter Tryz.func93, Tryz.ntmps93
  go_wp2_with fail
  refine wp_loop_rounds 1 ?_
  rw [rounds_succ]
  go_wp2_with fail
  refine HI.out.mono ?_; rintro e w2 ⟨rfl, h1, h2⟩
  have HM : Sl _ := ⟨And.intro h1 h2⟩
  clear h1 h2 HI
  go_wp2_with fail
  refine wp_loop_rounds 1 ?_
  rw [rounds_succ]
  go_wp2_with fail
  go_end0
  exact ⟨rfl, HM.out⟩
set_option maxHeartbeats 3200000 in
set_option maxRecDepth 100000 in
theorem sstable2_any (base g cap gf : Nat) (r d s t : Int) (w : World) (hts : t < d) (hown : w.ownsRow base 93 2 (.slice (some ⟨g, 0, none⟩) 2 cap) 2 (two2 r d s t)) (hf : Blk w gf 95 #[.func (.func 49) #[] #[]]) (hb : base ≤ w.heap.size) :
    Calls Tryz.prog 72 #[.slice (some ⟨g, 0, none⟩) 2 cap, .func (.func 73) #[] #[.pointer (some ⟨gf, 0, none⟩)]] w fun e w' => e = .returned (.tuple #[]) ∧ w'.ownsRow base 93 2 (.slice (some ⟨g, 0, none⟩) 2 cap) 2 (two2 s t r d) ∧ Below base w w' := by
  have HI : Sl _ := ⟨stable2_any base g cap gf r d s t w hts hown hf hb⟩
  clear hown hf hb hts
  go_enter Tryz.func72, Tryz.ntmps72
  go_wp2_with fail
  refine HI.out.mono ?_; rintro e w2 ⟨rfl, h1, h2⟩
  have HM : Sl _ := ⟨And.intro h1 h2⟩
  clear h1 h2 HI
  go_wp2_with fail
  go_end0
  exact ⟨rfl, HM.out⟩
set_option maxHeartbeats 3200000 in
set_option maxRecDepth 100000 in
/-- by, of two lowerings of which the second is due first -/
theorem by2_any (base g cap : Nat) (r d s t : Int) (w : World) (hts : t < d) (hown : w.ownsRow base 93 2 (.slice (some ⟨g, 0, none⟩) 2 cap) 2 (two2 r d s t)) (hb : base ≤ w.heap.size) :
    Calls Tryz.prog 48 #[.slice (some ⟨g, 0, none⟩) 2 cap, .func (.func 49) #[] #[]] w fun e w' => e = .returned (.tuple #[]) ∧ w'.ownsRow base 93 2 (.slice (some ⟨g, 0, none⟩) 2 cap) 2 (two2 s t r d) ∧ Below base w w' := by
  have hmf : ∀ (fn : Fn) (first cap : Array Value) (w : World), (Instr.makeFunc fn first cap).run Tryz.prog w = .ok (.func fn first cap) w := fun _ _ _ _ => rfl
  have hbn := Blk.new w 95 #[.func (.func 49) #[] #[]]
  have hu : Below base w (w.alloc (.cells #[.func (.func 49) #[] #[]] 95)) := (Below.refl _ _).alloc hb _
  have HI : Sl _ := ⟨sstable2_any base g cap w.heap.size r d s t _ hts (xown_alloc hown _) hbn (by simp; omega)⟩
  have HU : Sl _ := ⟨hu⟩
  clear hown hb hts hbn hu
  go_enter Tryz.func48, Tryz.ntmps48
  go_wp2_with fail
  refine HI.out.mono ?_; rintro e w2 ⟨rfl, h1, h2⟩
  have HM : Sl _ := ⟨And.intro h1 (HU.out.trans h2)⟩
  clear h1 h2 HI
  go_wp2_with fail
  go_end0
  exact ⟨rfl, HM.out⟩
end Go.Proofs.YtafadpaljanghaaGreatDoor
