/- Chapter 04: equality of six numbers. -/
import Derived.Test.YtalodfjplegibaaGreatDoorZsAc
import Derived.Test.YtalodfjplegibaaGreatDoorRatH
import Derived.ChangeKeysEq
import Derived.Test.YtalodfjplegibaaGreatDoorRatN
namespace Go.Proofs.YtalodfjplegibaaGreatDoor
set_option linter.unusedSimpArgs false
open Go.RowKit
set_option linter.unusedVariables false
theorem part6_0 (W : World) (a0 a1 a2 a3 a4 a5 : Int) : (part 3 #[.int .i64 a0, .int .i64 a1, .int .i64 a2, .int .i64 a3, .int .i64 a4, .int .i64 a5] 0).run Tryz.prog W = .ok (.int .i64 a0) W := by kernel_rfl
theorem part6_1 (W : World) (a0 a1 a2 a3 a4 a5 : Int) : (part 3 #[.int .i64 a0, .int .i64 a1, .int .i64 a2, .int .i64 a3, .int .i64 a4, .int .i64 a5] 1).run Tryz.prog W = .ok (.int .i64 a1) W := by kernel_rfl
theorem part6_2 (W : World) (a0 a1 a2 a3 a4 a5 : Int) : (part 3 #[.int .i64 a0, .int .i64 a1, .int .i64 a2, .int .i64 a3, .int .i64 a4, .int .i64 a5] 2).run Tryz.prog W = .ok (.int .i64 a2) W := by kernel_rfl
theorem part6_3 (W : World) (a0 a1 a2 a3 a4 a5 : Int) : (part 3 #[.int .i64 a0, .int .i64 a1, .int .i64 a2, .int .i64 a3, .int .i64 a4, .int .i64 a5] 3).run Tryz.prog W = .ok (.int .i64 a3) W := by kernel_rfl
theorem part6_4 (W : World) (a0 a1 a2 a3 a4 a5 : Int) : (part 3 #[.int .i64 a0, .int .i64 a1, .int .i64 a2, .int .i64 a3, .int .i64 a4, .int .i64 a5] 4).run Tryz.prog W = .ok (.int .i64 a4) W := by kernel_rfl
theorem part6_5 (W : World) (a0 a1 a2 a3 a4 a5 : Int) : (part 3 #[.int .i64 a0, .int .i64 a1, .int .i64 a2, .int .i64 a3, .int .i64 a4, .int .i64 a5] 5).run Tryz.prog W = .ok (.int .i64 a5) W := by kernel_rfl
theorem equal6 (W : World) (a0 a1 a2 a3 a4 a5 : Int) : (Op.equalIn 9999 22 (.agg #[.int .i64 a0, .int .i64 a1, .int .i64 a2, .int .i64 a3, .int .i64 a4, .int .i64 a5]) (.agg #[.int .i64 a0, .int .i64 a1, .int .i64 a2, .int .i64 a3, .int .i64 a4, .int .i64 a5])).run Tryz.prog W = .ok true W := by
  have hsome : (Tryz.prog.info? 3).isSome = true := (by kernel_rfl); obtain ⟨i, hi⟩ := Option.isSome_iff_exists.1 hsome; have hc : Tryz.prog.cellsOf 3 = 1 := (by kernel_rfl)
  have he : ∀ (W : World) (z : Int), (Op.equalIn 9998 3 (.int .i64 z) (.int .i64 z)).run Tryz.prog W = .ok true W := fun W z => by
    have := run_equalIn_int (P := Tryz.prog) W 9997 3 .i64 .i64 z z Tryz.underlying3; rw [this]; simp
  rw [run_equalIn_array W 9998 _ _ Tryz.underlying22 hi, hc]; have hl : List.range 6 = [0, 1, 2, 3, 4, 5] := (by decide); rw [hl]; simp [Op.eqItems, Sem.run_bind, part6_0, part6_1, part6_2, part6_3, part6_4, part6_5, he, Result.andThen]
end Go.Proofs.YtalodfjplegibaaGreatDoor
namespace Go.Proofs.YtalodfjplegibaaGreatDoor
set_option linter.unusedSimpArgs false
open Go.RowKit
set_option linter.unusedVariables false
theorem box_xratio (r : RV) (w : World) : (Instr.box 24 (.agg r.cells)).run Tryz.prog w = .ok (.pointer (some ⟨w.heap.size, 0, none⟩)) (w.alloc (.cells r.cells 24)) := by kernel_rfl
theorem RV.ext06x (r : RV) : r.cells.extract 0 6 = r.nums := by kernel_rfl
theorem eq_xnums (W : World) (r : RV) : (Op.equalIn 9999 22 (.agg r.nums) (.agg r.nums)).run Tryz.prog W = .ok true W := equal6 W r.n0 r.n1 r.n2 r.n3 r.n4 r.n5
theorem tx_size {r : RV} (h : checkS r = 0) : (xB (txR r)).size ≤ 200 := by
  rw [xB_size]
  by_cases h0 : termsN r 6 = []
  · unfold txR; rw [if_pos h0]; decide
  · rw [(txR_some h0).1]; have := txK_size h (Nat.le_refl 6); unfold txK at this; rw [xB_size, List.take_of_length_le (by rw [wds_len]; exact termsN_len r 6)] at this; omega
section
variable {P : Program} {ops : Array Oper} {rest : List Oper} {op : Oper} {a : Act} {w : World} {Q : Exit → Act → World → Prop}
theorem wpList_load_wholex (hw : Region.wanted op (yielded ops a.tmps) = true) (ty : TypeId) (x : Operand) (ho : op.op = .load ty x)
    (g : Nat) (hx : a.eval x = .pointer (some ⟨g, 0, none⟩)) (t : TypeId) (cs : Array Value) (d : TypeDesc) (hB : Blk w g t cs)
    (hu : P.underlying ty = some d) (hd : d.isRow = true) (hi : (P.info? ty).map (·.size) = some cs.size)
    (h : wpList P ops Q rest (a.put op.dst (.agg cs)) w) : wpList P ops Q (op :: rest) a w := by
  refine wpList_step fun K hK => ?_
  rw [if_pos hw]; exact wp_load_all ty x ho g hx t cs d hB hu hd hi (hK _ _ h)
end
attribute [-simp] Tryz.isAgg24
set_option maxHeartbeats 6400000 in
set_option maxRecDepth 100000 in
theorem ratiosTexts_any (t : RV) (s : ByteArray) (w : World) (hT : PrT w) (hF : FmtOK w) (hX : ParX w) : Calls Tryz.prog 3 #[.agg t.cells, .string s] w fun e w' => e = .returned (.bool true) ∧ Below w.heap.size w w' := by
  have HB : Sl (Below w.heap.size w w) := ⟨Below.refl _ _⟩; have HT : Sl _ := ⟨hT⟩; have HF : Sl _ := ⟨hF⟩; have HX : Sl _ := ⟨hX⟩
  obtain ⟨str, c, H1, H2, H3⟩ : ∃ (str : ByteArray) (c : Int), Sl (∀ W : World, PrT W → FmtOK W → Calls Tryz.prog 5 #[.agg t.cells] W fun e w' => e = .returned (.tuple #[.string str, .int .i64 c]) ∧ Below W.heap.size W w') ∧ Sl (∀ W : World, Calls Tryz.prog 6 #[.agg t.cells] W fun e w' => e = .returned (.tuple #[.string str, .int .i64 c]) ∧ Below W.heap.size W w') ∧ Sl (c = 0 → ∀ W : World, PrT W → FmtOK W → ParX W → Calls Tryz.prog 7 #[.string str] W fun e w' => e = .returned (.tuple #[.agg t.cells, .int .i64 0]) ∧ Below W.heap.size W w') := by
    by_cases hc : checkS t = 0
    · refine ⟨xB (txR t), 0, ⟨fun W h1 h2 => (xText_any t W h1 h2).mono fun e w' hh => ⟨hh.1.2 hc, hh.2⟩⟩, ⟨fun W => (r4Text_any t W).mono fun e w' hh => ⟨hh.1.2 hc, hh.2⟩⟩, ⟨fun _ W h1 h2 h3 => (xParse_any (xB (txR t)) W h1 h2 h3).mono fun e w' hh => ⟨?_, hh.2⟩⟩⟩; have hq := parR_hit (tx_size hc) hc (xB_list (txR t)).symm; rw [hh.1, hq]
    · exact ⟨⟨#[]⟩, checkS t, ⟨fun W h1 h2 => (xText_any t W h1 h2).mono fun e w' hh => ⟨hh.1.1 hc, hh.2⟩⟩, ⟨fun W => (r4Text_any t W).mono fun e w' hh => ⟨hh.1.1 hc, hh.2⟩⟩, ⟨fun h => absurd h hc⟩⟩
  have H4 : Sl _ := ⟨fun (W : World) (h1 : PrT W) (h2 : FmtOK W) (h3 : ParX W) => xParse_any s W h1 h2 h3⟩; have H5 : Sl _ := ⟨fun W : World => r4Parse_any s W⟩; have H6 : Sl _ := ⟨fun (W : World) (h : PrT W) => awake4_any W h⟩; clear hT hF hX; obtain ⟨r, hr⟩ : ∃ r, parR s = r := ⟨_, rfl⟩; rw [hr] at H4 H5; clear hr; obtain ⟨a, ea⟩ := r; simp only at H4 H5; have HA : Sl _ := ⟨And.intro a.dcell (And.intro a.ext06x (fun W => eq_xnums W a))⟩; have HB' : Sl _ := ⟨And.intro t.dcell (And.intro t.ext06x (fun W => eq_xnums W t))⟩; go_enter Tryz.func3, Tryz.ntmps3
  go_wp2_with ((with_reducible show wpList _ _ _ _ _ _); first
    | (refine wpList_box_new 2 rfl rfl 24 (.tmp 0) rfl t.cells rfl (box_xratio t) ?_; rintro w1 gT zg zm zs zb; have ORD : Sl (w.heap.size ≤ gT) := ⟨by have := HB.out.size; omega⟩; replace HB : Sl (Below w.heap.size w w1) := ⟨below_mv HB.out zm (by have := HB.out.size; have := ORD.out; omega) HB.out.size⟩; have XT : Sl (Blk w1 gT 24 t.cells) := ⟨zb⟩; clear zg zm zs zb)
    | (refine wpList_load_whole rfl 24 (.tmp 2) rfl gT rfl 24 t.cells _ XT.out Tryz.underlying24 rfl size_xratio ?_))
  refine (H1.out _ (HT.out.below HB.out) (HF.out.below HB.out)).mono ?_; rintro e w2 ⟨rfl, hb⟩; replace HB : Sl (Below w.heap.size w w2) := ⟨HB.out.trans (hb.mono HB.out.size)⟩; replace XT : Sl (Blk w2 gT 24 t.cells) := ⟨XT.out.below hb XT.out.lt⟩; clear hb
  go_wp2_with ((with_reducible show wpList _ _ _ _ _ _); first
    | (refine wpList_load_whole rfl 24 (.tmp 2) rfl gT rfl 24 t.cells _ XT.out Tryz.underlying24 rfl size_xratio ?_))
  refine (H2.out _).mono ?_; rintro e w3 ⟨rfl, hb⟩; replace HB : Sl (Below w.heap.size w w3) := ⟨HB.out.trans (hb.mono HB.out.size)⟩; replace XT : Sl (Blk w3 gT 24 t.cells) := ⟨XT.out.below hb XT.out.lt⟩; clear hb; go_wp2_with fail; refine (H4.out _ (HT.out.below HB.out) (HF.out.below HB.out) (HX.out.below HB.out)).mono ?_; rintro e w4 ⟨rfl, hb⟩; replace HB : Sl (Below w.heap.size w w4) := ⟨HB.out.trans (hb.mono HB.out.size)⟩; replace XT : Sl (Blk w4 gT 24 t.cells) := ⟨XT.out.below hb XT.out.lt⟩; clear hb
  go_wp2_with ((with_reducible show wpList _ _ _ _ _ _); first
    | (refine wpList_alloc_new 9 rfl rfl 24 rfl RVzero.cells alloc_xratio ?_; rintro w5 gA zg zm zs zb; replace ORD : Sl (w.heap.size ≤ gT ∧ gT < gA) := ⟨by have := HB.out.size; have := ORD.out; have := XT.out.lt; omega⟩; replace HB : Sl (Below w.heap.size w w5) := ⟨below_mv HB.out zm (by have := HB.out.size; have := ORD.out; omega) HB.out.size⟩; replace XT : Sl (Blk w5 gT 24 t.cells) := ⟨XT.out.mv zm (by have := XT.out.lt; have := ORD.out; omega)⟩; have XA : Sl (Blk w5 gA 24 RVzero.cells) := ⟨zb⟩; clear zg zm zs zb)
    | (refine wpList_store_whole rfl 24 (.tmp 9) (.tmp 28) rfl gA a.cells rfl rfl 24 RVzero.cells XA.out rfl size_xratio (RV.xcells_one _) ?_; rintro w6 zm zs zb; replace HB : Sl (Below w.heap.size w w6) := ⟨below_mv HB.out zm (by have := HB.out.size; have := ORD.out; omega) HB.out.size⟩; replace XT : Sl (Blk w6 gT 24 t.cells) := ⟨XT.out.mv zm (by have := XT.out.lt; have := ORD.out; omega)⟩; replace XA : Sl (Blk w6 gA 24 a.cells) := ⟨zb⟩; clear zm zs zb))
  refine (H5.out _).mono ?_; rintro e w7 ⟨rfl, hb⟩; replace HB : Sl (Below w.heap.size w w7) := ⟨HB.out.trans (hb.mono HB.out.size)⟩; replace XT : Sl (Blk w7 gT 24 t.cells) := ⟨XT.out.below hb XT.out.lt⟩; replace XA : Sl (Blk w7 gA 24 a.cells) := ⟨XA.out.below hb XA.out.lt⟩; clear hb; obtain ⟨a0, a1, a2⟩ := HA.out
  by_cases h0 : c = 0
  · subst h0
    go_wp2_with ((with_reducible show wpList _ _ _ _ _ _); first
      | (refine wpList_alloc_new 11 rfl rfl 24 rfl RVzero.cells alloc_xratio ?_; rintro w8 gB zg zm zs zb; replace ORD : Sl (w.heap.size ≤ gT ∧ gT < gA ∧ gA < gB) := ⟨by have := HB.out.size; have := ORD.out; have := XT.out.lt; have := XA.out.lt; omega⟩; replace HB : Sl (Below w.heap.size w w8) := ⟨below_mv HB.out zm (by have := HB.out.size; have := ORD.out; omega) HB.out.size⟩; replace XT : Sl (Blk w8 gT 24 t.cells) := ⟨XT.out.mv zm (by have := XT.out.lt; have := ORD.out; omega)⟩; replace XA : Sl (Blk w8 gA 24 a.cells) := ⟨XA.out.mv zm (by have := XA.out.lt; have := ORD.out; omega)⟩; have XB : Sl (Blk w8 gB 24 RVzero.cells) := ⟨zb⟩; clear zg zm zs zb)
      | (refine wpList_store_whole rfl 24 (.tmp 11) (.tmp 33) rfl gB a.cells rfl rfl 24 RVzero.cells XB.out rfl size_xratio (RV.xcells_one _) ?_; rintro w9 zm zs zb; replace HB : Sl (Below w.heap.size w w9) := ⟨below_mv HB.out zm (by have := HB.out.size; have := ORD.out; omega) HB.out.size⟩; replace XT : Sl (Blk w9 gT 24 t.cells) := ⟨XT.out.mv zm (by have := XT.out.lt; have := ORD.out; omega)⟩; replace XA : Sl (Blk w9 gA 24 a.cells) := ⟨XA.out.mv zm (by have := XA.out.lt; have := ORD.out; omega)⟩; replace XB : Sl (Blk w9 gB 24 a.cells) := ⟨zb⟩; clear zm zs zb)
      | (refine wpList_load_wholex (by rfl) 24 (.tmp 9) rfl gA rfl 24 a.cells _ XA.out Tryz.underlying24 rfl size_xratio ?_)
      | (refine wpList_load_wholex (by rfl) 24 (.tmp 11) rfl gB rfl 24 a.cells _ XB.out Tryz.underlying24 rfl size_xratio ?_))
    refine (H3.out (by trivial) _ (HT.out.below HB.out) (HF.out.below HB.out) (HX.out.below HB.out)).mono ?_; rintro e w10 ⟨rfl, hb⟩; replace HB : Sl (Below w.heap.size w w10) := ⟨HB.out.trans (hb.mono HB.out.size)⟩; replace XT : Sl (Blk w10 gT 24 t.cells) := ⟨XT.out.below hb XT.out.lt⟩; replace XA : Sl (Blk w10 gA 24 a.cells) := ⟨XA.out.below hb XA.out.lt⟩; replace XB : Sl (Blk w10 gB 24 a.cells) := ⟨XB.out.below hb XB.out.lt⟩; clear hb; clear a0 a1 a2; obtain ⟨b0, b1, b2⟩ := HB'.out
    go_wp2_with ((with_reducible show wpList _ _ _ _ _ _); first
      | (refine wpList_alloc_new 13 rfl rfl 24 rfl RVzero.cells alloc_xratio ?_; rintro w11 gC zg zm zs zb; replace ORD : Sl (w.heap.size ≤ gT ∧ gT < gA ∧ gA < gB ∧ gB < gC) := ⟨by have := HB.out.size; have := ORD.out; have := XT.out.lt; have := XA.out.lt; have := XB.out.lt; omega⟩; replace HB : Sl (Below w.heap.size w w11) := ⟨below_mv HB.out zm (by have := HB.out.size; have := ORD.out; omega) HB.out.size⟩; replace XT : Sl (Blk w11 gT 24 t.cells) := ⟨XT.out.mv zm (by have := XT.out.lt; have := ORD.out; omega)⟩; replace XA : Sl (Blk w11 gA 24 a.cells) := ⟨XA.out.mv zm (by have := XA.out.lt; have := ORD.out; omega)⟩; replace XB : Sl (Blk w11 gB 24 a.cells) := ⟨XB.out.mv zm (by have := XB.out.lt; have := ORD.out; omega)⟩; have XC : Sl (Blk w11 gC 24 RVzero.cells) := ⟨zb⟩; clear zg zm zs zb)
      | (refine wpList_store_whole rfl 24 (.tmp 13) (.tmp 58) rfl gC t.cells rfl rfl 24 RVzero.cells XC.out rfl size_xratio (RV.xcells_one _) ?_; rintro w12 zm zs zb; replace HB : Sl (Below w.heap.size w w12) := ⟨below_mv HB.out zm (by have := HB.out.size; have := ORD.out; omega) HB.out.size⟩; replace XT : Sl (Blk w12 gT 24 t.cells) := ⟨XT.out.mv zm (by have := XT.out.lt; have := ORD.out; omega)⟩; replace XA : Sl (Blk w12 gA 24 a.cells) := ⟨XA.out.mv zm (by have := XA.out.lt; have := ORD.out; omega)⟩; replace XB : Sl (Blk w12 gB 24 a.cells) := ⟨XB.out.mv zm (by have := XB.out.lt; have := ORD.out; omega)⟩; replace XC : Sl (Blk w12 gC 24 t.cells) := ⟨zb⟩; clear zm zs zb)
      | (refine wpList_load_wholex (by rfl) 24 (.tmp 13) rfl gC rfl 24 t.cells _ XC.out Tryz.underlying24 rfl size_xratio ?_)
      | (refine wpList_load_wholex (by rfl) 24 (.tmp 2) rfl gT rfl 24 t.cells _ XT.out Tryz.underlying24 rfl size_xratio ?_))
    refine (H6.out _ (HT.out.below HB.out)).mono ?_; rintro e w13 ⟨rfl, hb⟩; replace HB : Sl (Below w.heap.size w w13) := ⟨HB.out.trans (hb.mono HB.out.size)⟩; replace XT : Sl (Blk w13 gT 24 t.cells) := ⟨XT.out.below hb XT.out.lt⟩; replace XA : Sl (Blk w13 gA 24 a.cells) := ⟨XA.out.below hb XA.out.lt⟩; replace XB : Sl (Blk w13 gB 24 a.cells) := ⟨XB.out.below hb XB.out.lt⟩; replace XC : Sl (Blk w13 gC 24 t.cells) := ⟨XC.out.below hb XC.out.lt⟩; clear hb; go_wp2_with fail; go_ret; exact ⟨rfl, HB.out⟩
  · have hz : ((c : Int) == 0) = false := (by rw [beq_eq_false_iff_ne]; exact h0)
    go_wp2_with ((with_reducible show wpList _ _ _ _ _ _); first
      | (refine wpList_alloc_new 11 rfl rfl 24 rfl RVzero.cells alloc_xratio ?_; rintro w24 gB zg zm zs zb; replace ORD : Sl (w.heap.size ≤ gT ∧ gT < gA ∧ gA < gB) := ⟨by have := HB.out.size; have := ORD.out; have := XT.out.lt; have := XA.out.lt; omega⟩; replace HB : Sl (Below w.heap.size w w24) := ⟨below_mv HB.out zm (by have := HB.out.size; have := ORD.out; omega) HB.out.size⟩; replace XT : Sl (Blk w24 gT 24 t.cells) := ⟨XT.out.mv zm (by have := XT.out.lt; have := ORD.out; omega)⟩; replace XA : Sl (Blk w24 gA 24 a.cells) := ⟨XA.out.mv zm (by have := XA.out.lt; have := ORD.out; omega)⟩; have XB : Sl (Blk w24 gB 24 RVzero.cells) := ⟨zb⟩; clear zg zm zs zb)
      | (refine wpList_store_whole rfl 24 (.tmp 11) (.tmp 33) rfl gB a.cells rfl rfl 24 RVzero.cells XB.out rfl size_xratio (RV.xcells_one _) ?_; rintro w25 zm zs zb; replace HB : Sl (Below w.heap.size w w25) := ⟨below_mv HB.out zm (by have := HB.out.size; have := ORD.out; omega) HB.out.size⟩; replace XT : Sl (Blk w25 gT 24 t.cells) := ⟨XT.out.mv zm (by have := XT.out.lt; have := ORD.out; omega)⟩; replace XA : Sl (Blk w25 gA 24 a.cells) := ⟨XA.out.mv zm (by have := XA.out.lt; have := ORD.out; omega)⟩; replace XB : Sl (Blk w25 gB 24 a.cells) := ⟨zb⟩; clear zm zs zb)
      | (refine wpList_load_wholex (by rfl) 24 (.tmp 9) rfl gA rfl 24 a.cells _ XA.out Tryz.underlying24 rfl size_xratio ?_)
      | (refine wpList_load_wholex (by rfl) 24 (.tmp 11) rfl gB rfl 24 a.cells _ XB.out Tryz.underlying24 rfl size_xratio ?_))
    refine (H6.out _ (HT.out.below HB.out)).mono ?_; rintro e w26 ⟨rfl, hb⟩; replace HB : Sl (Below w.heap.size w w26) := ⟨HB.out.trans (hb.mono HB.out.size)⟩; replace XT : Sl (Blk w26 gT 24 t.cells) := ⟨XT.out.below hb XT.out.lt⟩; replace XA : Sl (Blk w26 gA 24 a.cells) := ⟨XA.out.below hb XA.out.lt⟩; replace XB : Sl (Blk w26 gB 24 a.cells) := ⟨XB.out.below hb XB.out.lt⟩; clear hb; go_wp2_with fail; go_ret; exact ⟨rfl, HB.out⟩
end Go.Proofs.YtalodfjplegibaaGreatDoor
