/- What the rows of the laws of package ratios need: their list of tables, a world for the witness, the last step, an argument that is a ratio. Parts began as the given page's toy and as the guide's post_of_below, which its page bids to copy. -/
import Derived.Test.YtalodfjplegibaaGreatDoorCards
import Derived.Test.YtalodfjplegibaaGreatDoorTie
import Derived.Test.YtalodfjplegibaaGreatDoorRatI
import Derived.ProofKit
import Derived.OpenShut
import Derived.Deep.DeepHandedRow
import Derived.Lib.LaidTab
import Derived.Stop.LaidErr
import Derived.ChangeSame
import Derived.ChangeSlices
import Derived.Carry
import Derived.Lay
import Derived.ChangeMaps5
namespace Go.Proofs.YtalodfjplegibaaGreatDoor
set_option linter.unusedSimpArgs false
open Go.ChangeShapes Go.WideShapes Go.ChangeAt Go.RowKit
set_option linter.unusedVariables false

section
variable {H : Type} {enc : TypeId × Value → H} {P : Program}
theorem post_of_below {f : Func} {s : ChangeSpec} {apart fresh handsOn again : Bool} {W W' : World} {args : Array Value} {v : Value} {ds gs : List (DataW H)} {before pa pv : List MemPlace}
    (hW : DataW.Whole enc P f.params.toList s.vars apart W args.toList ds gs before)
    (hres : ∀ (b : Nat) (sp : Nat → Bool) (hd : Bool), DataW.TrodAll enc P W' b sp hd f.resultTypes.toList (v.resultList f.resultTypes.size) (s.fn H (ds ++ gs)).results [])
    (hargs : ∀ sp : Nat → Bool, (∀ p ∈ before, sp p.block = true) → DataW.TrodAll enc P W' 0 sp true f.params.toList args.toList (s.fn H (ds ++ gs)).args pa)
    (hvars : ∀ sp : Nat → Bool, (∀ p ∈ before, sp p.block = true) → DataW.TrodVars enc P W' sp s.vars (s.fn H (ds ++ gs)).vars pv)
    (hps : before = pa ++ pv) (hb : Below W.heap.size W W')
    (hok : ∀ (j : Nat) (t : TypeId) (r : Value), f.resultTypes[j]? = some t → (v.resultList f.resultTypes.size)[j]? = some r → Value.okWide P W' .any 0 t r) :
    s.post enc P f apart fresh handsOn again W args v W' := by
  have hlt : ∀ p ∈ before, p.block < W.heap.size := fun p hp => hW.lt p hp
  have hold : ∀ p ∈ before, (fun b => decide (b < W.heap.size)) p.block = true := fun p hp => by simpa using hlt p hp
  refine ⟨ds, gs, before, [], pa, pv, hW, hres _ _ _, hargs _ hold, hvars _ hold, World.keptBut_mono (fun p hp => ⟨hp, ?_⟩) (hb.frame (· ∈ before)), fun _ => ?_⟩
  · rw [hps, List.mem_append] at hp
    exact Or.inr hp
  · obtain ⟨_, _, _, _, _, hz, hn⟩ := hW
    refine ⟨hok, _, _, ([] ++ pa) ++ pv, ⟨[] ++ pa, pv, trodAll_append (hargs _ (fun _ _ => rfl)) (hres _ _ _), hvars _ (fun _ _ => rfl), rfl, ?_, ?_⟩, ?_⟩
    · intro b off hp
      have hin : MemPlace.cell b off ∈ before := by rw [hps]; simpa using hp
      rw [hb.frozen (hlt _ hin)]
      exact hz b off hin
    · intro ha
      have := hn ha
      rw [hps] at this
      simpa using this
    · intro p hp _
      rw [hps]
      simpa using hp
end

theorem ownK : ownKnob Tryz.prog.godebug = none := by kernel_rfl
theorem laidO : laidOutB Tryz.prog = true := by kernel_rfl
theorem tabR_eq : (Rows.laid_quintadena_ratios_primes : DataW Unit) = Lib.tabData .i64 [2, 3, 5, 7, 11, 13] := by kernel_rfl
/-- the list of the rows of this package -/
def laidLR : List (String × DataW Unit) := [("quintadena/ratios.primes", Rows.laid_quintadena_ratios_primes)]
theorem laidLR_pr {W : World} (h : laidMetH Tryz.prog laidLR W) : PrT W := by
  have h1 : laidMet Tryz.prog laidLR W := h
  have h2 := h1
  unfold laidLR at h2
  rw [tabR_eq] at h2
  obtain ⟨t, e, n, hty, ht, he, hce, hct⟩ : ∃ t e n, (Tryz.prog.globals[0]?).map (·.type) = some t ∧ Tryz.prog.underlying t = some (.array n e) ∧ Tryz.prog.underlying e = some (.int .i64) ∧ Tryz.prog.cellsOf e = 1 ∧ Tryz.prog.cellsOf t = n :=
    ⟨67, 2, 6, by kernel_rfl, by kernel_rfl, by kernel_rfl, by kernel_rfl, by kernel_rfl⟩
  exact Lib.tabIs_of_head gPr hty ht he hce hct h2
noncomputable def laidWorldR (os : Os) : World := World.laidAll Tryz.prog os laidLR
theorem laid_metR (os : Os) (args : Array Value) : laidMet Tryz.prog laidLR ((laidWorldR os).forCall (fun _ _ => 0) ⟨#[], args, []⟩).memory :=
  laidMet_laidAll args (by kernel_rfl) (by kernel_rfl)

theorem wf_i64 {z : Int} (h : (Lit.int .i64 z).wf = true) : -9223372036854775808 ≤ z ∧ z < 9223372036854775808 := by
  simp [Lit.wf, IntKind.min, IntKind.max, IntKind.signed, IntKind.bits] at h
  omega
set_option maxRecDepth 100000 in
theorem open_nums {H : Type} {enc : TypeId × Value → H} {W : World} {b : Nat} {spare : Nat → Bool} {held : Bool} {fuel : Nat} {cs : List Value} {x : DataW H × List MemPlace} (h : DataW.trod enc Tryz.prog W b spare held fuel 22 cs = some x) :
    ∃ z0 z1 z2 z3 z4 z5 : Int, cs = [.int .i64 z0, .int .i64 z1, .int .i64 z2, .int .i64 z3, .int .i64 z4, .int .i64 z5] ∧ x.2 = [] := by
  obtain ⟨ys, m, rfl, rfl, hl, hn, hf⟩ := DataW.trod_array Tryz.underlying22 h
  have hc : Tryz.prog.cellsOf 3 = 1 := by kernel_rfl
  have hc6 : Tryz.prog.cellsOf 22 = 6 := by kernel_rfl
  rw [hc6] at hl
  match cs, hl, ys, hn with
  | [c0, c1, c2, c3, c4, c5], _, [y0, y1, y2, y3, y4, y5], _ =>
    have g0 := hf 0 (by omega)
    have g1 := hf 1 (by omega)
    have g2 := hf 2 (by omega)
    have g3 := hf 3 (by omega)
    have g4 := hf 4 (by omega)
    have g5 := hf 5 (by omega)
    simp [hc] at g0 g1 g2 g3 g4 g5
    obtain ⟨z0, e0, rfl, _⟩ := DataW.trod_int Tryz.underlying3 g0
    obtain ⟨z1, e1, rfl, _⟩ := DataW.trod_int Tryz.underlying3 g1
    obtain ⟨z2, e2, rfl, _⟩ := DataW.trod_int Tryz.underlying3 g2
    obtain ⟨z3, e3, rfl, _⟩ := DataW.trod_int Tryz.underlying3 g3
    obtain ⟨z4, e4, rfl, _⟩ := DataW.trod_int Tryz.underlying3 g4
    obtain ⟨z5, e5, rfl, _⟩ := DataW.trod_int Tryz.underlying3 g5
    simp at e0 e1 e2 e3 e4 e5
    subst e0 e1 e2 e3 e4 e5
    exact ⟨z0, z1, z2, z3, z4, z5, rfl, by simp⟩
set_option maxRecDepth 100000 in
/-- a ratio as an argument -/
theorem rat_arg {H : Type} {enc : TypeId × Value → H} {W : World} {base : Nat} {v : Value} {d : DataW H} {ps : List MemPlace} (hval : Value.okWide Tryz.prog W .any base 24 v) (h : DataW.Trod enc Tryz.prog W 0 (fun _ => true) true 24 v d ps) :
    ∃ r : RV, v = .agg r.cells ∧ ps = [] := by
  obtain ⟨ws, rfl, _⟩ := okWide_struct Tryz.underlying24 hval
  obtain ⟨fuel, h⟩ := h
  obtain ⟨y0, y1, n, hx, hl, h0, h1⟩ := trod_struct2 Tryz.underlying24 h
  obtain ⟨z0, z1, z2, z3, z4, z5, c0, p0⟩ := open_nums h0
  obtain ⟨z6, c1, rfl, _⟩ := DataW.trod_int Tryz.underlying3 h1
  have hc : Tryz.prog.cellsOf 3 = 1 := by kernel_rfl
  have hc6 : Tryz.prog.cellsOf 22 = 6 := by kernel_rfl
  have hc7 : Tryz.prog.cellsOf 24 = 7 := by kernel_rfl
  simp only [Value.cells] at hl c0 c1
  rw [hc7] at hl
  simp only [hc, hc6] at c0 c1
  refine ⟨⟨z0, z1, z2, z3, z4, z5, z6⟩, ?_, ?_⟩
  · unfold RV.cells
    obtain ⟨l⟩ := ws
    simp only at hl c0 c1
    match l, hl with
    | [a0, a1, a2, a3, a4, a5, a6], _ =>
      simp at c0 c1
      obtain ⟨rfl, rfl, rfl, rfl, rfl, rfl⟩ := c0
      subst c1
      rfl
  · simp only [Prod.mk.injEq] at hx
    rw [hx.2, p0]
    rfl
/-- such an argument reads as it did -/
theorem stays {H : Type} {enc : TypeId × Value → H} {t : TypeId} (hr : Tryz.prog.readableRec t = true) (hrow : t < Tryz.prog.types.size) {W W' : World} {v : Value} {d : DataW H} {ps : List MemPlace} (h : DataW.Trod enc Tryz.prog W 0 (fun _ => true) true t v d ps) (hb : Below W.heap.size W W') (hlt : ∀ x ∈ ps, x.block < W.heap.size) (sp : Nat → Bool) (hsp : ∀ x ∈ ps, sp x.block = true) :
    DataW.Trod enc Tryz.prog W' 0 sp true t v d ps := WideElems.Trod_stays laidO hr hrow h (fun x hx => hb.same (hlt x hx)) (fun x hx => hsp x hx)
end Go.Proofs.YtalodfjplegibaaGreatDoor
