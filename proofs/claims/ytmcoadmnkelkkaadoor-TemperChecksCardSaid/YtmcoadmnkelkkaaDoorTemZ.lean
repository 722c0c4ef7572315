/- The law TemperChecks walks to true. (Printed by gentemz.py.) -/
import Derived.Test.YtmcoadmnkelkkaaDoorTemY
namespace Go.Proofs.YtmcoadmnkelkkaaDoor
set_option linter.unusedSimpArgs false
open Go.RowKit
set_option linter.unusedVariables false

attribute [-simp] Tryd.isAgg26
set_option maxHeartbeats 6400000 in
set_option maxRecDepth 100000 in
theorem temperChecks_any (t : TV) (hs : t.nm.size ≤ maxLen) (w : World) (hT : PrT w) : Calls Tryd.prog 3 #[.agg t.cells] w fun e w' => e = .returned (.bool true) ∧ Below w.heap.size w w' := by
  have HB : Sl (Below w.heap.size w w) := ⟨Below.refl _ _⟩
  have HT : Sl _ := ⟨hT⟩
  have H1 : Sl _ := ⟨fun W : World => tcheck_any t W hs⟩
  have H2 : Sl _ := ⟨fun W : World => r5check_any t W hs⟩
  have H3 : Sl _ := ⟨fun (W : World) (h : PrT W) => awake5_any W h⟩
  clear hT hs
  generalize t.chk nameS = c at *
  go_enter Tryd.func3, Tryd.ntmps3
  go_wp2_with ((with_reducible show wpList _ _ _ _ _ _); first
    | (refine wpList_box_new 1 rfl rfl 26 (.tmp 0) rfl t.cells rfl (box_temper t) ?_; rintro w1 gT zg zm zs zb; have ORD : Sl (w.heap.size ≤ gT) := ⟨by have := HB.out.size; omega⟩; replace HB : Sl (Below w.heap.size w w1) := ⟨below_mv HB.out zm (by have := HB.out.size; have := ORD.out; omega) HB.out.size⟩; have XT : Sl (Blk w1 gT 26 t.cells) := ⟨zb⟩; clear zg zm zs zb))
  have hm : Mv w1.heap.size w1 w1.drew := Mv.drew _ _
  have hs : RowKit.Below w1.heap.size w1 w1.drew := below_drewN (Below.refl _ _) 1
  have HSW : Sl _ := ⟨hs⟩
  clear hs
  refine wp_region_held_drew (S := fun w' => Mv w1.heap.size w1 w') (by kernel_rfl) hm (fun hHeld => ?_)
  clear hm
  refine wpAnyH_load 0 26 (.tmp 1) rfl rfl rfl gT (0) rfl t.cells _ (fun w' h => by
    have e := XT.out.mv h (by have := XT.out.lt; (try have := ORD.out); omega)
    exact e.all) Tryd.underlying26 rfl (size_temper t) (by kernel_rfl) (by kernel_rfl) (by kernel_rfl) (fun _ _ _ h => h) (by assumption) ?_
  simp only [Act.put, List.setIfInBounds_toArray, List.set_cons_zero, List.set_cons_succ]
  refine wpAnyH_load 2 26 (.tmp 1) rfl rfl rfl gT (0) rfl t.cells _ (fun w' h => by
    have e := XT.out.mv h (by have := XT.out.lt; (try have := ORD.out); omega)
    exact e.all) Tryd.underlying26 rfl (size_temper t) (by kernel_rfl) (by kernel_rfl) (by kernel_rfl) (fun _ _ _ h => h) (by assumption) ?_
  simp only [Act.put, List.setIfInBounds_toArray, List.set_cons_zero, List.set_cons_succ]
  refine wpAnyH_one 1 rfl (by kernel_rfl) rfl (fun K hK => ?_)
  go_simp
  go_at_call 7
  (with_reducible refine (H1.out _).mono ?_)
  rintro e z2 ⟨rfl, hb⟩
  replace HSW : Sl (RowKit.Below w1.heap.size w1 z2) := ⟨HSW.out.trans (hb.mono HSW.out.size)⟩
  refine hK.out _ _ (Mv.below HSW.out) (fun hHeld => ?_)
  clear hK K hb
  (try simp only [Act.put, List.setIfInBounds_toArray, List.set_cons_zero, List.set_cons_succ])
  refine wpAnyH_one 3 rfl (by kernel_rfl) rfl (fun K hK => ?_)
  go_simp
  go_at_call 8
  (with_reducible refine (H2.out _).mono ?_)
  rintro e z3 ⟨rfl, hb⟩
  replace HSW : Sl (RowKit.Below w1.heap.size w1 z3) := ⟨HSW.out.trans (hb.mono HSW.out.size)⟩
  refine hK.out _ _ (Mv.below HSW.out) (fun hHeld => ?_)
  clear hK K hb
  (try simp only [Act.put, List.setIfInBounds_toArray, List.set_cons_zero, List.set_cons_succ])
  refine wpAnyH_pure 4 (v := .bool true) rfl (by kernel_rfl) (by kernel_rfl) (by kernel_rfl) (fun _ _ _ h => h) rfl (fun _ => by go_simp) (by assumption) ?_
  simp only [Act.put, List.setIfInBounds_toArray, List.set_cons_zero, List.set_cons_succ]
  refine wpAnyH_pure 5 (v := .bool true) rfl (by kernel_rfl) (by kernel_rfl) (by kernel_rfl) (fun _ _ _ h => h) rfl (fun _ => rfl) (by assumption) ?_
  simp only [Act.put, List.setIfInBounds_toArray, List.set_cons_zero, List.set_cons_succ]
  refine wpAnyH_onew 6 rfl (by kernel_rfl) (by rfl) (fun K hK => ?_)
  go_simp
  go_at_call 9
  (with_reducible refine (H3.out _ (HT.out.below (HB.out.trans (HSW.out.mono HB.out.size)))).mono ?_)
  rintro e z4 ⟨rfl, hb⟩
  replace HSW : Sl (RowKit.Below w1.heap.size w1 z4) := ⟨HSW.out.trans (hb.mono HSW.out.size)⟩
  refine hK.out _ _ (Mv.below HSW.out) (fun hHeld => ?_)
  clear hK K hb
  (try simp only [Act.put, List.setIfInBounds_toArray, List.set_cons_zero, List.set_cons_succ])
  refine wpAnyH_pure 7 (v := .bool true) rfl (by kernel_rfl) (by kernel_rfl) (by kernel_rfl) (fun _ _ _ h => h) rfl (fun _ => rfl) (by assumption) ?_
  simp only [Act.put, List.setIfInBounds_toArray, List.set_cons_zero, List.set_cons_succ]
  refine wpAnyH_pure 8 (v := .bool true) rfl (by kernel_rfl) (by kernel_rfl) (by kernel_rfl) (fun _ _ _ h => h) rfl (fun _ => rfl) (by assumption) ?_
  simp only [Act.put, List.setIfInBounds_toArray, List.set_cons_zero, List.set_cons_succ]
  refine wpAnyH_done (by kernel_rfl) ?_ _
  replace HB : Sl (Below w.heap.size w z4) := ⟨HB.out.trans (HSW.out.mono HB.out.size)⟩
  replace XT : Sl (Blk z4 gT 26 t.cells) := ⟨XT.out.below HSW.out XT.out.lt⟩
  clear HSW; (try clear hHeld)
  go_wp2_with fail
  go_ret
  exact ⟨rfl, HB.out⟩
end Go.Proofs.YtmcoadmnkelkkaaDoor
