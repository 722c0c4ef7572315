/- Equality of temperaments; the law TemperTurns walks to true. (Printed by gentmc.py.) -/
import Derived.Test.YtmcoadmnkelkkaaDoorTnB
import Derived.ChangeKeysEq
namespace Go.Proofs.YtmcoadmnkelkkaaDoor
set_option linter.unusedSimpArgs false
open Go.RowKit
set_option linter.unusedVariables false

theorem eq_part (W : World) (n d : Int) : (Op.equalIn 9998 23 (.agg #[.int .i64 n, .int .i64 d]) (.agg #[.int .i64 n, .int .i64 d])).run Tryd.prog W = .ok true W := by
  go_simp
theorem part12_0 (W : World) (t : TV) : (part 23 t.parts 0).run Tryd.prog W = .ok (.agg #[.int .i64 (t.num 0), .int .i64 (t.den 0)]) W := by kernel_rfl
theorem part12_1 (W : World) (t : TV) : (part 23 t.parts 2).run Tryd.prog W = .ok (.agg #[.int .i64 (t.num 1), .int .i64 (t.den 1)]) W := by kernel_rfl
theorem part12_2 (W : World) (t : TV) : (part 23 t.parts 4).run Tryd.prog W = .ok (.agg #[.int .i64 (t.num 2), .int .i64 (t.den 2)]) W := by kernel_rfl
theorem part12_3 (W : World) (t : TV) : (part 23 t.parts 6).run Tryd.prog W = .ok (.agg #[.int .i64 (t.num 3), .int .i64 (t.den 3)]) W := by kernel_rfl
theorem part12_4 (W : World) (t : TV) : (part 23 t.parts 8).run Tryd.prog W = .ok (.agg #[.int .i64 (t.num 4), .int .i64 (t.den 4)]) W := by kernel_rfl
theorem part12_5 (W : World) (t : TV) : (part 23 t.parts 10).run Tryd.prog W = .ok (.agg #[.int .i64 (t.num 5), .int .i64 (t.den 5)]) W := by kernel_rfl
theorem part12_6 (W : World) (t : TV) : (part 23 t.parts 12).run Tryd.prog W = .ok (.agg #[.int .i64 (t.num 6), .int .i64 (t.den 6)]) W := by kernel_rfl
theorem part12_7 (W : World) (t : TV) : (part 23 t.parts 14).run Tryd.prog W = .ok (.agg #[.int .i64 (t.num 7), .int .i64 (t.den 7)]) W := by kernel_rfl
theorem part12_8 (W : World) (t : TV) : (part 23 t.parts 16).run Tryd.prog W = .ok (.agg #[.int .i64 (t.num 8), .int .i64 (t.den 8)]) W := by kernel_rfl
theorem part12_9 (W : World) (t : TV) : (part 23 t.parts 18).run Tryd.prog W = .ok (.agg #[.int .i64 (t.num 9), .int .i64 (t.den 9)]) W := by kernel_rfl
theorem part12_10 (W : World) (t : TV) : (part 23 t.parts 20).run Tryd.prog W = .ok (.agg #[.int .i64 (t.num 10), .int .i64 (t.den 10)]) W := by kernel_rfl
theorem part12_11 (W : World) (t : TV) : (part 23 t.parts 22).run Tryd.prog W = .ok (.agg #[.int .i64 (t.num 11), .int .i64 (t.den 11)]) W := by kernel_rfl
theorem eq_parts (W : World) (t : TV) : (Op.equalIn 9999 24 (.agg t.parts) (.agg t.parts)).run Tryd.prog W = .ok true W := by
  have hsome : (Tryd.prog.info? 23).isSome = true := by kernel_rfl
  obtain ⟨i, hi⟩ := Option.isSome_iff_exists.1 hsome
  have hc : Tryd.prog.cellsOf 23 = 2 := by kernel_rfl
  have he := eq_part
  rw [run_equalIn_array W 9998 _ _ Tryd.underlying24 hi, hc]
  have hl : List.range 12 = [0, 1, 2, 3, 4, 5, 6, 7, 8, 9, 10, 11] := by decide
  rw [hl]
  simp [Op.eqItems, Sem.run_bind, part12_0, part12_1, part12_2, part12_3, part12_4, part12_5, part12_6, part12_7, part12_8, part12_9, part12_10, part12_11, he, Result.andThen]
theorem TV.parts_ext2 (t : TV) : t.cells.extract 3 27 = t.parts := by kernel_rfl
section
variable {P : Program} {ops : Array Oper} {rest : List Oper} {op : Oper} {a : Act} {w : World} {Q : Exit → Act → World → Prop}
/-- the same of a guarded load whose guard holds -/
theorem wpList_load_wholew (hw : Region.wanted op (yielded ops a.tmps) = true) (ty : TypeId) (x : Operand) (ho : op.op = .load ty x)
    (g : Nat) (hx : a.eval x = .pointer (some ⟨g, 0, none⟩)) (t : TypeId) (cs : Array Value) (d : TypeDesc) (hB : Blk w g t cs)
    (hu : P.underlying ty = some d) (hd : d.isRow = true) (hi : (P.info? ty).map (·.size) = some cs.size)
    (h : wpList P ops Q rest (a.put op.dst (.agg cs)) w) : wpList P ops Q (op :: rest) a w := by
  refine wpList_step fun K hK => ?_
  rw [if_pos hw]
  exact wp_load_all ty x ho g hx t cs d hB hu hd hi (hK _ _ h)
end
attribute [-simp] Tryd.isAgg26 Tryd.isAgg24
set_option maxHeartbeats 6400000 in
set_option maxRecDepth 100000 in
theorem temperTurns_any (t : TV) (hs : t.nm.size ≤ maxLen) (z : Int) (nm : ByteArray) (hn : nm.size ≤ maxLen) (w : World) (hT : PrT w) : Calls Tryd.prog 5 #[.agg t.cells, .int .i64 z, .string nm] w fun e w' => e = .returned (.bool true) ∧ Below w.heap.size w w' := by
  have HB : Sl (Below w.heap.size w w) := ⟨Below.refl _ _⟩
  have HT : Sl _ := ⟨hT⟩
  have H1 : Sl _ := ⟨fun W : World => turn_any t hs z W⟩
  have H2 : Sl _ := ⟨fun W : World => r5turn_any t hs z W⟩
  have H3 : Sl _ := ⟨fun W : World => Standard_any nm W⟩
  have H4 : Sl _ := ⟨fun W : World => r5Standard_any nm W⟩
  have H5 : Sl _ := ⟨fun (W : World) (h : PrT W) => awake5_any W h⟩
  clear hT hs hn
  generalize t.trn z = A at *
  generalize stdT nm = B at *
  obtain ⟨a, ea⟩ := A
  obtain ⟨b, eb⟩ := B
  have HA : Sl _ := ⟨And.intro a.cell0 (And.intro a.cell1 (And.intro a.cell2 (And.intro a.parts_ext2 (fun W => eq_parts W a))))⟩
  have HB' : Sl _ := ⟨And.intro b.cell0 (And.intro b.cell1 (And.intro b.cell2 (And.intro b.parts_ext2 (fun W => eq_parts W b))))⟩
  have sza := size_temper a
  have szb := size_temper b
  have oa := a.cells_one
  have ob := b.cells_one
  have za : a.cells.size = TV0.cells.size := rfl
  have zb2 : b.cells.size = TV0.cells.size := rfl
  have HSZ : Sl _ := ⟨And.intro sza (And.intro szb (And.intro oa (And.intro ob (And.intro za zb2))))⟩
  clear sza szb oa ob za zb2
  simp only at H1 H2 H3 H4
  generalize a.cells = ca at *
  generalize b.cells = cb at *
  generalize a.parts = pa at *
  generalize b.parts = pb at *
  go_enter Tryd.func5, Tryd.ntmps5
  go_wp2_with ((with_reducible show wpList _ _ _ _ _ _); first
    | (refine wpList_box_new 3 rfl rfl 26 (.tmp 0) rfl t.cells rfl (box_temper t) ?_; rintro w1 gT zg zm zs zb; have ORD : Sl (w.heap.size ≤ gT) := ⟨by have := HB.out.size; omega⟩; replace HB : Sl (Below w.heap.size w w1) := ⟨below_mv HB.out zm (by have := HB.out.size; have := ORD.out; omega) HB.out.size⟩; have XT : Sl (Blk w1 gT 26 t.cells) := ⟨zb⟩; clear zg zm zs zb)
    | (refine wpList_load_whole rfl 26 (.tmp 3) rfl gT rfl 26 t.cells _ XT.out Tryd.underlying26 rfl (size_temper t) ?_))
  refine (H1.out _).mono ?_; rintro e w2 ⟨rfl, hb⟩
  replace HB : Sl (Below w.heap.size w w2) := ⟨HB.out.trans (hb.mono HB.out.size)⟩
  replace XT : Sl (Blk w2 gT 26 t.cells) := ⟨XT.out.below hb XT.out.lt⟩
  clear hb
  go_wp2_with ((with_reducible show wpList _ _ _ _ _ _); first
    | (refine wpList_alloc_new 7 rfl rfl 26 rfl TV0.cells alloc_temper ?_; rintro w3 gA zg zm zs zb; replace ORD : Sl (w.heap.size ≤ gT ∧ gT < gA) := ⟨by have := HB.out.size; have := ORD.out; have := XT.out.lt; omega⟩; replace HB : Sl (Below w.heap.size w w3) := ⟨below_mv HB.out zm (by have := HB.out.size; have := ORD.out; omega) HB.out.size⟩; replace XT : Sl (Blk w3 gT 26 t.cells) := ⟨XT.out.mv zm (by have := XT.out.lt; have := ORD.out; omega)⟩; have XA : Sl (Blk w3 gA 26 TV0.cells) := ⟨zb⟩; clear zg zm zs zb)
    | (refine wpList_store_whole rfl 26 (.tmp 7) (.tmp 19) rfl gA ca rfl rfl 26 TV0.cells XA.out HSZ.out.2.2.2.2.1 HSZ.out.1 HSZ.out.2.2.1 ?_; rintro w4 zm zs zb; replace HB : Sl (Below w.heap.size w w4) := ⟨below_mv HB.out zm (by have := HB.out.size; have := ORD.out; omega) HB.out.size⟩; replace XT : Sl (Blk w4 gT 26 t.cells) := ⟨XT.out.mv zm (by have := XT.out.lt; have := ORD.out; omega)⟩; replace XA : Sl (Blk w4 gA 26 ca) := ⟨zb⟩; clear zm zs zb)
    | (refine wpList_load_whole rfl 26 (.tmp 3) rfl gT rfl 26 t.cells _ XT.out Tryd.underlying26 rfl (size_temper t) ?_))
  refine (H2.out _).mono ?_; rintro e w5 ⟨rfl, hb⟩
  replace HB : Sl (Below w.heap.size w w5) := ⟨HB.out.trans (hb.mono HB.out.size)⟩
  replace XT : Sl (Blk w5 gT 26 t.cells) := ⟨XT.out.below hb XT.out.lt⟩
  replace XA : Sl (Blk w5 gA 26 ca) := ⟨XA.out.below hb XA.out.lt⟩
  clear hb
  go_wp2_with ((with_reducible show wpList _ _ _ _ _ _); first
    | (refine wpList_alloc_new 9 rfl rfl 26 rfl TV0.cells alloc_temper ?_; rintro w6 gB zg zm zs zb; replace ORD : Sl (w.heap.size ≤ gT ∧ gT < gA ∧ gA < gB) := ⟨by have := HB.out.size; have := ORD.out; have := XT.out.lt; have := XA.out.lt; omega⟩; replace HB : Sl (Below w.heap.size w w6) := ⟨below_mv HB.out zm (by have := HB.out.size; have := ORD.out; omega) HB.out.size⟩; replace XT : Sl (Blk w6 gT 26 t.cells) := ⟨XT.out.mv zm (by have := XT.out.lt; have := ORD.out; omega)⟩; replace XA : Sl (Blk w6 gA 26 ca) := ⟨XA.out.mv zm (by have := XA.out.lt; have := ORD.out; omega)⟩; have XB : Sl (Blk w6 gB 26 TV0.cells) := ⟨zb⟩; clear zg zm zs zb)
    | (refine wpList_store_whole rfl 26 (.tmp 9) (.tmp 25) rfl gB ca rfl rfl 26 TV0.cells XB.out HSZ.out.2.2.2.2.1 HSZ.out.1 HSZ.out.2.2.1 ?_; rintro w7 zm zs zb; replace HB : Sl (Below w.heap.size w w7) := ⟨below_mv HB.out zm (by have := HB.out.size; have := ORD.out; omega) HB.out.size⟩; replace XT : Sl (Blk w7 gT 26 t.cells) := ⟨XT.out.mv zm (by have := XT.out.lt; have := ORD.out; omega)⟩; replace XA : Sl (Blk w7 gA 26 ca) := ⟨XA.out.mv zm (by have := XA.out.lt; have := ORD.out; omega)⟩; replace XB : Sl (Blk w7 gB 26 ca) := ⟨zb⟩; clear zm zs zb))
  refine (H3.out _).mono ?_; rintro e w8 ⟨rfl, hb⟩
  replace HB : Sl (Below w.heap.size w w8) := ⟨HB.out.trans (hb.mono HB.out.size)⟩
  replace XT : Sl (Blk w8 gT 26 t.cells) := ⟨XT.out.below hb XT.out.lt⟩
  replace XA : Sl (Blk w8 gA 26 ca) := ⟨XA.out.below hb XA.out.lt⟩
  replace XB : Sl (Blk w8 gB 26 ca) := ⟨XB.out.below hb XB.out.lt⟩
  clear hb
  go_wp2_with ((with_reducible show wpList _ _ _ _ _ _); first
    | (refine wpList_alloc_new 11 rfl rfl 26 rfl TV0.cells alloc_temper ?_; rintro w9 gC zg zm zs zb; replace ORD : Sl (w.heap.size ≤ gT ∧ gT < gA ∧ gA < gB ∧ gB < gC) := ⟨by have := HB.out.size; have := ORD.out; have := XT.out.lt; have := XA.out.lt; have := XB.out.lt; omega⟩; replace HB : Sl (Below w.heap.size w w9) := ⟨below_mv HB.out zm (by have := HB.out.size; have := ORD.out; omega) HB.out.size⟩; replace XT : Sl (Blk w9 gT 26 t.cells) := ⟨XT.out.mv zm (by have := XT.out.lt; have := ORD.out; omega)⟩; replace XA : Sl (Blk w9 gA 26 ca) := ⟨XA.out.mv zm (by have := XA.out.lt; have := ORD.out; omega)⟩; replace XB : Sl (Blk w9 gB 26 ca) := ⟨XB.out.mv zm (by have := XB.out.lt; have := ORD.out; omega)⟩; have XC : Sl (Blk w9 gC 26 TV0.cells) := ⟨zb⟩; clear zg zm zs zb)
    | (refine wpList_store_whole rfl 26 (.tmp 11) (.tmp 30) rfl gC cb rfl rfl 26 TV0.cells XC.out HSZ.out.2.2.2.2.2 HSZ.out.2.1 HSZ.out.2.2.2.1 ?_; rintro w10 zm zs zb; replace HB : Sl (Below w.heap.size w w10) := ⟨below_mv HB.out zm (by have := HB.out.size; have := ORD.out; omega) HB.out.size⟩; replace XT : Sl (Blk w10 gT 26 t.cells) := ⟨XT.out.mv zm (by have := XT.out.lt; have := ORD.out; omega)⟩; replace XA : Sl (Blk w10 gA 26 ca) := ⟨XA.out.mv zm (by have := XA.out.lt; have := ORD.out; omega)⟩; replace XB : Sl (Blk w10 gB 26 ca) := ⟨XB.out.mv zm (by have := XB.out.lt; have := ORD.out; omega)⟩; replace XC : Sl (Blk w10 gC 26 cb) := ⟨zb⟩; clear zm zs zb))
  refine (H4.out _).mono ?_; rintro e w11 ⟨rfl, hb⟩
  replace HB : Sl (Below w.heap.size w w11) := ⟨HB.out.trans (hb.mono HB.out.size)⟩
  replace XT : Sl (Blk w11 gT 26 t.cells) := ⟨XT.out.below hb XT.out.lt⟩
  replace XA : Sl (Blk w11 gA 26 ca) := ⟨XA.out.below hb XA.out.lt⟩
  replace XB : Sl (Blk w11 gB 26 ca) := ⟨XB.out.below hb XB.out.lt⟩
  replace XC : Sl (Blk w11 gC 26 cb) := ⟨XC.out.below hb XC.out.lt⟩
  clear hb
  obtain ⟨a0, a1, a2, a3, a4⟩ := HA.out
  obtain ⟨b0, b1, b2, b3, b4⟩ := HB'.out
  have hag := Tryd.isAgg24
  clear HA HB'
  go_wp2_with ((with_reducible show wpList _ _ _ _ _ _); first
    | (refine wpList_alloc_new 13 rfl rfl 26 rfl TV0.cells alloc_temper ?_; rintro w12 gD zg zm zs zb; replace ORD : Sl (w.heap.size ≤ gT ∧ gT < gA ∧ gA < gB ∧ gB < gC ∧ gC < gD) := ⟨by have := HB.out.size; have := ORD.out; have := XT.out.lt; have := XA.out.lt; have := XB.out.lt; have := XC.out.lt; omega⟩; replace HB : Sl (Below w.heap.size w w12) := ⟨below_mv HB.out zm (by have := HB.out.size; have := ORD.out; omega) HB.out.size⟩; replace XT : Sl (Blk w12 gT 26 t.cells) := ⟨XT.out.mv zm (by have := XT.out.lt; have := ORD.out; omega)⟩; replace XA : Sl (Blk w12 gA 26 ca) := ⟨XA.out.mv zm (by have := XA.out.lt; have := ORD.out; omega)⟩; replace XB : Sl (Blk w12 gB 26 ca) := ⟨XB.out.mv zm (by have := XB.out.lt; have := ORD.out; omega)⟩; replace XC : Sl (Blk w12 gC 26 cb) := ⟨XC.out.mv zm (by have := XC.out.lt; have := ORD.out; omega)⟩; have XD : Sl (Blk w12 gD 26 TV0.cells) := ⟨zb⟩; clear zg zm zs zb)
    | (refine wpList_store_whole rfl 26 (.tmp 13) (.tmp 35) rfl gD cb rfl rfl 26 TV0.cells XD.out HSZ.out.2.2.2.2.2 HSZ.out.2.1 HSZ.out.2.2.2.1 ?_; rintro w13 zm zs zb; replace HB : Sl (Below w.heap.size w w13) := ⟨below_mv HB.out zm (by have := HB.out.size; have := ORD.out; omega) HB.out.size⟩; replace XT : Sl (Blk w13 gT 26 t.cells) := ⟨XT.out.mv zm (by have := XT.out.lt; have := ORD.out; omega)⟩; replace XA : Sl (Blk w13 gA 26 ca) := ⟨XA.out.mv zm (by have := XA.out.lt; have := ORD.out; omega)⟩; replace XB : Sl (Blk w13 gB 26 ca) := ⟨XB.out.mv zm (by have := XB.out.lt; have := ORD.out; omega)⟩; replace XC : Sl (Blk w13 gC 26 cb) := ⟨XC.out.mv zm (by have := XC.out.lt; have := ORD.out; omega)⟩; replace XD : Sl (Blk w13 gD 26 cb) := ⟨zb⟩; clear zm zs zb)
    | (refine wpList_load_whole rfl 26 (.tmp 7) rfl gA rfl 26 ca _ XA.out Tryd.underlying26 rfl HSZ.out.1 ?_)
    | (refine wpList_load_whole rfl 26 (.tmp 9) rfl gB rfl 26 ca _ XB.out Tryd.underlying26 rfl HSZ.out.1 ?_)
    | (refine wpList_load_wholew (by rfl) 26 (.tmp 11) rfl gC rfl 26 cb _ XC.out Tryd.underlying26 rfl HSZ.out.2.1 ?_)
    | (refine wpList_load_wholew (by rfl) 26 (.tmp 13) rfl gD rfl 26 cb _ XD.out Tryd.underlying26 rfl HSZ.out.2.1 ?_))
  refine (H5.out _ (HT.out.below HB.out)).mono ?_; rintro e w14 ⟨rfl, hb⟩
  replace HB : Sl (Below w.heap.size w w14) := ⟨HB.out.trans (hb.mono HB.out.size)⟩
  replace XT : Sl (Blk w14 gT 26 t.cells) := ⟨XT.out.below hb XT.out.lt⟩
  replace XA : Sl (Blk w14 gA 26 ca) := ⟨XA.out.below hb XA.out.lt⟩
  replace XB : Sl (Blk w14 gB 26 ca) := ⟨XB.out.below hb XB.out.lt⟩
  replace XC : Sl (Blk w14 gC 26 cb) := ⟨XC.out.below hb XC.out.lt⟩
  replace XD : Sl (Blk w14 gD 26 cb) := ⟨XD.out.below hb XD.out.lt⟩
  clear hb
  go_wp2_with fail
  go_ret
  exact ⟨rfl, HB.out⟩
end Go.Proofs.YtmcoadmnkelkkaaDoor
