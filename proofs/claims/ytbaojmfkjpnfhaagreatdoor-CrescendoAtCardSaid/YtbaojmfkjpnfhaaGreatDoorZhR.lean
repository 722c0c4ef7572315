/- What the rows of the laws of package mixtures need that ask for no table: their list of tables, a world for the witness, the last step. Parts began as the given page's toy and as the guide's post_of_below, which its page bids to copy. -/
import Derived.Test.YtbaojmfkjpnfhaaGreatDoorCards
import Derived.Test.YtbaojmfkjpnfhaaGreatDoorTie
import Derived.Test.YtbaojmfkjpnfhaaGreatDoorBase
import Derived.ProofKit
import Derived.OpenShut
import Derived.Deep.DeepHandedRow
import Derived.Lib.LaidTab
import Derived.Stop.LaidErr
import Derived.ChangeSame
import Derived.ChangeSlices
import Derived.Carry
import Derived.Lay
import Derived.ChangeMaps5
import Derived.Test.YtbaojmfkjpnfhaaGreatDoorMyH
import Derived.Deep.Slices
import Derived.Deep.Strs
import Derived.Test.YtbaojmfkjpnfhaaGreatDoorCxA
import Derived.Test.YtbaojmfkjpnfhaaGreatDoorCxD
import Derived.Test.YtbaojmfkjpnfhaaGreatDoorCxG
import Derived.Test.YtbaojmfkjpnfhaaGreatDoorSiF
import Derived.Test.YtbaojmfkjpnfhaaGreatDoorCsA
import Derived.Test.YtbaojmfkjpnfhaaGreatDoorHld
import Derived.Test.YtbaojmfkjpnfhaaGreatDoorHlb
import Derived.Test.YtbaojmfkjpnfhaaGreatDoorShelB
import Derived.Shelf.Strings.BuilderK
import Derived.Test.YtbaojmfkjpnfhaaGreatDoorMyO
namespace Go.Proofs.YtbaojmfkjpnfhaaGreatDoor
set_option linter.unusedSimpArgs false
open Go.ChangeShapes Go.WideShapes Go.ChangeAt Go.RowKit
set_option linter.unusedVariables false
section
variable {H : Type} {enc : TypeId × Value → H} {P : Program}
theorem post_of_below {f : Func} {s : ChangeSpec} {apart fresh handsOn again : Bool} {W W' : World} {args : Array Value} {v : Value} {ds gs : List (DataW H)} {before pa pv : List MemPlace}
    (hW : DataW.Whole enc P f.params.toList s.vars apart W args.toList ds gs before)
    (hres : ∀ (b : Nat) (sp : Nat → Bool) (hd : Bool), DataW.TrodAll enc P W' b sp hd f.resultTypes.toList (v.resultList f.resultTypes.size) (s.fn H (ds ++ gs)).results [])
    (hargs : ∀ sp : Nat → Bool, (∀ p ∈ before, sp p.block = true) → DataW.TrodAll enc P W' 0 sp true f.params.toList args.toList (s.fn H (ds ++ gs)).args pa)
    (hvars : ∀ sp : Nat → Bool, (∀ p ∈ before, sp p.block = true) → DataW.TrodVars enc P W' sp s.vars (s.fn H (ds ++ gs)).vars pv)
    (hps : before = pa ++ pv) (hb : Below W.heap.size W W')
    (hok : ∀ (j : Nat) (t : TypeId) (r : Value), f.resultTypes[j]? = some t → (v.resultList f.resultTypes.size)[j]? = some r → Value.okWide P W' .any 0 t r) :
    s.post enc P f apart fresh handsOn again W args v W' := by
  have hlt : ∀ p ∈ before, p.block < W.heap.size := fun p hp => hW.lt p hp
  have hold : ∀ p ∈ before, (fun b => decide (b < W.heap.size)) p.block = true := fun p hp => by simpa using hlt p hp
  refine ⟨ds, gs, before, [], pa, pv, hW, hres _ _ _, hargs _ hold, hvars _ hold, World.keptBut_mono (fun p hp => ⟨hp, ?_⟩) (hb.frame (· ∈ before)), fun _ => ?_⟩
  · rw [hps, List.mem_append] at hp; exact Or.inr hp
  · obtain ⟨_, _, _, _, _, hz, hn⟩ := hW; refine ⟨hok, _, _, ([] ++ pa) ++ pv, ⟨[] ++ pa, pv, trodAll_append (hargs _ (fun _ _ => rfl)) (hres _ _ _), hvars _ (fun _ _ => rfl), rfl, ?_, ?_⟩, ?_⟩
    · intro b off hp; have hin : MemPlace.cell b off ∈ before := (by rw [hps]; simpa using hp); rw [hb.frozen (hlt _ hin)]; exact hz b off hin
    · intro ha; have := hn ha; rw [hps] at this; simpa using this
    · intro p hp _; rw [hps]; simpa using hp
end
theorem ownK : ownKnob Tryz.prog.godebug = none := by kernel_rfl
theorem laidO : laidOutB Tryz.prog = true := by kernel_rfl
def laidLM : List (String × DataW Unit) := [("math/bits.deBruijn32tab", Rows.laid_math_bits_deBruijn32tab), ("math/bits.deBruijn64tab", Rows.laid_math_bits_deBruijn64tab), ("internal/strconv.uint64pow10", Rows.laid_internal_strconv_uint64pow10)]
noncomputable def laidWorldM (os : Os) : World := World.laidAll Tryz.prog os laidLM
theorem laid_metM (os : Os) (args : Array Value) : laidMet Tryz.prog laidLM ((laidWorldM os).forCall (fun _ _ => 0) ⟨#[], args, []⟩).memory :=
  laidMet_laidAll args (by kernel_rfl) (by kernel_rfl)
theorem wf_i64 {z : Int} (h : (Lit.int .i64 z).wf = true) : -9223372036854775808 ≤ z ∧ z < 9223372036854775808 := by
  simp [Lit.wf, IntKind.min, IntKind.max, IntKind.signed, IntKind.bits] at h; omega
theorem stays {H : Type} {enc : TypeId × Value → H} {t : TypeId} (hr : Tryz.prog.readableRec t = true) (hrow : t < Tryz.prog.types.size) {W W' : World} {v : Value} {d : DataW H} {ps : List MemPlace} (h : DataW.Trod enc Tryz.prog W 0 (fun _ => true) true t v d ps) (hb : Below W.heap.size W W') (hlt : ∀ x ∈ ps, x.block < W.heap.size) (sp : Nat → Bool) (hsp : ∀ x ∈ ps, sp x.block = true) :
    DataW.Trod enc Tryz.prog W' 0 sp true t v d ps := WideElems.Trod_stays laidO hr hrow h (fun x hx => hb.same (hlt x hx)) (fun x hx => hsp x hx)
end Go.Proofs.YtbaojmfkjpnfhaaGreatDoor
namespace Go.Proofs.YtbaojmfkjpnfhaaGreatDoor
open Go.ChangeShapes Go.WideShapes Go.ChangeAt Go.RowKit Go.Deep
set_option linter.unusedVariables false
set_option linter.unusedSimpArgs false
set_option maxRecDepth 100000 in
theorem ints_trod {H : Type} {enc : TypeId × Value → H} {W : World} {fuel : Nat} {v : Value} {x : DataW H × List MemPlace} (h : DataW.trod enc Tryz.prog W 0 (fun _ => true) true fuel 31 [v] = some x) (hb : ∀ p ∈ x.2, p.block < W.heap.size) :
    ∃ A n c l, v = .slice A n c ∧ II W A n l ∧ (n ≤ c ∧ c ≤ maxLen) ∧ ∀ z ∈ l, i64 z := by
  rcases open_ints Tryz.underlying31 Tryz.underlying3 (by kernel_rfl) h with ⟨hv, _⟩ | ⟨a, len, cap, zs, hv, _, hlc, hcm, hzl, hx, hcell, hwf⟩
  · simp at hv; exact ⟨none, 0, 0, [], hv, II.nil _ _, ⟨by simp, by decide⟩, by simp⟩
  · simp at hv; subst hv; simp only [if_true] at hzl; rw [hx] at hb; refine ⟨some a, len, cap, zs.take len, rfl, ⟨by rw [List.length_take]; omega, by simp; omega, fun h0 => ⟨a, rfl, ?_, fun j u hu => ?_⟩⟩, ⟨hlc, hcm⟩, fun z hz => wf_i64 (hwf z (List.mem_of_mem_take hz))⟩
    · exact hb _ (MemPlace.mem_row.2 ⟨0, by omega, rfl⟩)
    · rw [List.getElem?_map] at hu; rcases Nat.lt_or_ge j len with hj | hj
      · rw [List.getElem?_take_of_lt hj, List.getElem?_eq_getElem (by omega)] at hu; simp at hu; subst hu; rw [hcell j (by omega)]; have e : zs.getD j 0 = zs[j]'(by omega) := (by simp [List.getD, List.getElem?_eq_getElem (show j < zs.length by omega)]); rw [e]; rfl
      · rw [List.getElem?_eq_none (by simp; omega)] at hu
        cases hu
end Go.Proofs.YtbaojmfkjpnfhaaGreatDoor
namespace Go.Proofs.YtbaojmfkjpnfhaaGreatDoor
open Go.ChangeShapes Go.WideShapes Go.ChangeAt Go.RowKit Go.Deep
set_option linter.unusedVariables false
set_option linter.unusedSimpArgs false
end Go.Proofs.YtbaojmfkjpnfhaaGreatDoor
namespace Go.Proofs.YtbaojmfkjpnfhaaGreatDoor
open Go.ChangeShapes Go.WideShapes Go.ChangeAt Go.RowKit Go.Deep
set_option linter.unusedVariables false
set_option linter.unusedSimpArgs false
theorem trod_structA2 {H : Type} {enc : TypeId × Value → H} {P : Program} {w : World} {base : Nat} {spare : Nat → Bool} {held : Bool} {t : TypeId} {f0 f1 : Field} {fuel : Nat} {cs : List Value} {x : DataW H × List MemPlace} (ht : P.underlying t = some (.struct #[f0, f1])) (h : DataW.trod enc P w base spare held fuel t cs = some x) :
    ∃ y0 y1 n, x = (.agg [y0.1, y1.1], y0.2 ++ y1.2) ∧ cs.length = P.cellsOf t ∧ DataW.trod enc P w base spare held n f0.type ((cs.drop f0.offset).take (P.cellsOf f0.type)) = some y0 ∧
      DataW.trod enc P w base spare held n f1.type ((cs.drop f1.offset).take (P.cellsOf f1.type)) = some y1 := by
  obtain ⟨xs, n, _, rfl, hl, hlen, hf⟩ := DataW.trod_struct ht h
  match xs, hlen with
  | [y0, y1], _ => exact ⟨y0, y1, n, by simp, hl, by simpa using hf 0 f0 rfl, by simpa using hf 1 f1 rfl⟩
theorem trod_structA3 {H : Type} {enc : TypeId × Value → H} {P : Program} {w : World} {base : Nat} {spare : Nat → Bool} {held : Bool} {t : TypeId} {f0 f1 f2 : Field} {fuel : Nat} {cs : List Value} {x : DataW H × List MemPlace} (ht : P.underlying t = some (.struct #[f0, f1, f2])) (h : DataW.trod enc P w base spare held fuel t cs = some x) :
    ∃ y0 y1 y2 n, x = (.agg [y0.1, y1.1, y2.1], y0.2 ++ (y1.2 ++ y2.2)) ∧ cs.length = P.cellsOf t ∧ DataW.trod enc P w base spare held n f0.type ((cs.drop f0.offset).take (P.cellsOf f0.type)) = some y0 ∧
      DataW.trod enc P w base spare held n f1.type ((cs.drop f1.offset).take (P.cellsOf f1.type)) = some y1 ∧ DataW.trod enc P w base spare held n f2.type ((cs.drop f2.offset).take (P.cellsOf f2.type)) = some y2 := by
  obtain ⟨xs, n, _, rfl, hl, hlen, hf⟩ := DataW.trod_struct ht h
  match xs, hlen with
  | [y0, y1, y2], _ => exact ⟨y0, y1, y2, n, by simp, hl, by simpa using hf 0 f0 rfl, by simpa using hf 1 f1 rfl, by simpa using hf 2 f2 rfl⟩
set_option maxRecDepth 100000 in
theorem reg_trod {H : Type} {enc : TypeId × Value → H} {W : World} {fuel : Nat} {cs : List Value} {x : DataW H × List MemPlace} (h : DataW.trod enc Tryz.prog W 0 (fun _ => true) true fuel 33 cs = some x) (hb : ∀ p ∈ x.2, p.block < W.heap.size) :
    ∃ r : RgV, cs = [.slice r.A r.n r.c, .slice r.B r.m r.d] ∧ RgM W r ∧ (∀ z ∈ r.l, i64 z) ∧ ∀ z ∈ r.k, i64 z := by
  obtain ⟨y0, y1, n, hx, hl, h0, h1⟩ := trod_structA2 Tryz.underlying33 h; have c1 : Tryz.prog.cellsOf 31 = 1 := (by kernel_rfl); have c7 : Tryz.prog.cellsOf 33 = 2 := (by kernel_rfl); rw [c7] at hl
  match cs, hl with
  | [u0, u1], _ =>
    simp only [c1, List.drop_zero, List.drop_succ_cons, List.take_succ_cons, List.take_zero] at h0 h1; obtain ⟨A, n1, c, l, e0, g1, g2, g3⟩ := ints_trod h0 (fun p hp => hb p (by rw [hx]; simp [hp])); obtain ⟨B, m1, d, k, e1, k1, k2, k3⟩ := ints_trod h1 (fun p hp => hb p (by rw [hx]; simp [hp])); subst e0 e1; exact ⟨⟨A, n1, c, l, B, m1, d, k⟩, rfl, ⟨g1, k1, g2, k2⟩, g3, k3⟩
end Go.Proofs.YtbaojmfkjpnfhaaGreatDoor
namespace Go.Proofs.YtbaojmfkjpnfhaaGreatDoor
open Go.ChangeShapes Go.WideShapes Go.ChangeAt Go.RowKit Go.Deep
set_option linter.unusedVariables false
set_option linter.unusedSimpArgs false
set_option maxRecDepth 100000 in
theorem rows_trod {α : Type} {t e : TypeId} {sz : Nat} {cells : α → List Value} {fit : α → Prop} {H : Type} {enc : TypeId × Value → H} {W : World} (z0 : α) (hsz : ∀ x, (cells x).length = sz) (hpos : 0 < sz) (ht : Tryz.prog.underlying t = some (.slice e)) (hce : Tryz.prog.cellsOf e = sz)
    (hel : ∀ {fuel : Nat} {cs : List Value} {x : DataW H × List MemPlace}, DataW.trod enc Tryz.prog W 0 (fun _ => true) true fuel e cs = some x → (∀ p ∈ x.2, p.block < W.heap.size) → ∃ r : α, cs = cells r ∧ fit r)
    {fuel : Nat} {v : Value} {x : DataW H × List MemPlace} (h : DataW.trod enc Tryz.prog W 0 (fun _ => true) true fuel t [v] = some x) (hb : ∀ p ∈ x.2, p.block < W.heap.size) :
    ∃ A n c R, v = .slice A n c ∧ RowG W A n sz cells R ∧ (n ≤ c ∧ c ≤ maxLen) ∧ ∀ r ∈ R, fit r := by
  rcases open_slice ht h with ⟨hv, _⟩ | ⟨a, len, cap, m, n, D, Pl, hv, _, hlc, hcm, hm, hx, hi⟩
  · simp at hv; exact ⟨none, 0, 0, [], hv, RowG.nil _ _ _ _ hsz, ⟨Nat.le_refl _, Nat.zero_le _⟩, fun r hr => by cases hr⟩
  · simp at hv; subst hv; simp only [if_true] at hm; subst hm; rw [hx, hce] at hb
    have hel2 : ∀ i, ∃ r : α, i < m → (∀ t u, (cells r)[t]? = some u → W.cell? (a.add (i * sz + t)) = some u) ∧ fit r := fun i => by
      by_cases him : i < m
      · obtain ⟨cs', hc, htt⟩ := hi i him
        obtain ⟨r, rfl, g1⟩ := hel htt (fun p hp => hb p (by
          rw [List.mem_append]
          exact .inr (List.mem_flatMap.2 ⟨i, List.mem_range.2 him, hp⟩)))
        rw [hce] at hc; obtain ⟨_, hcl, hat⟩ := World.cells?_some hc; refine ⟨r, fun _ => ⟨fun t u hu => ?_, g1⟩⟩
        have ht6 : t < sz := by
          have := (List.getElem?_eq_some_iff.1 hu).1
          rwa [hsz] at this
        have := hat t (by exact ht6); rw [add_of_add] at this; rw [this, ← hu]
        try (rw [List.getElem?_eq_getElem (by rw [hsz]; exact ht6)])
      · exact ⟨z0, fun h => absurd h him⟩
    obtain ⟨B, hs⟩ := Classical.axiomOfChoice hel2; refine ⟨some a, len, m, (List.range len).map B, rfl, ⟨by simp, ⟨by rw [flG_len cells sz hsz]; simp, fun h0 => ⟨a, rfl, ?_, fun j u hu => ?_⟩⟩, hsz⟩, ⟨hlc, hcm⟩, fun r hr => ?_⟩
    · exact hb _ (List.mem_append_left _ (MemPlace.mem_row.2 ⟨0, Nat.mul_pos (by omega) hpos, rfl⟩))
    · have hjl : j < len * sz := by
        have := (List.getElem?_eq_some_iff.1 hu).1; rw [flG_len cells sz hsz] at this; simpa using this
      have hd : j / sz < len := Nat.div_lt_of_lt_mul (by rw [Nat.mul_comm]; exact hjl)
      have hq : ((List.range len).map B)[j / sz]? = some (B (j / sz)) := by
        rw [List.getElem?_map, List.getElem?_range hd]; rfl
      have hmod : j % sz < sz := Nat.mod_lt _ hpos; have hg := flG_get cells sz hsz _ _ _ (j % sz) hq hmod; have hjj : j / sz * sz + j % sz = j := (by rw [Nat.mul_comm]; exact Nat.div_add_mod j sz); rw [hjj] at hg; rw [hg] at hu; have := (hs (j / sz) (by omega)).1 (j % sz) u hu
      rwa [hjj] at this
    · obtain ⟨i, hi2⟩ := List.mem_iff_getElem?.1 hr; rw [List.getElem?_map] at hi2; rcases Nat.lt_or_ge i len with hil | hil
      · rw [List.getElem?_range hil] at hi2; injection hi2 with hi2
        rw [← hi2]; exact (hs i (by omega)).2
      · rw [List.getElem?_eq_none (by simpa using hil)] at hi2; cases hi2
theorem rows_div {H : Type} {enc : TypeId × Value → H} {W : World} {fuel : Nat} {v : Value} {x : DataW H × List MemPlace} (h : DataW.trod enc Tryz.prog W 0 (fun _ => true) true fuel 28 [v] = some x) (hb : ∀ p ∈ x.2, p.block < W.heap.size) :
    ∃ A n c R, v = .slice A n c ∧ RowG W A n 2 RgV.cells R ∧ (n ≤ c ∧ c ≤ maxLen) ∧ ∀ r ∈ R, RgM W r := 
  rows_trod (sz := 2) (cells := RgV.cells) (fit := fun r => RgM W r) rg0 (fun _ => rfl) (by decide) Tryz.underlying28 (by kernel_rfl) (fun ht hp => by
    obtain ⟨r, e, g, _⟩ := reg_trod ht hp
    exact ⟨r, e, g⟩) h hb
theorem trod_structA6 {H : Type} {enc : TypeId × Value → H} {P : Program} {w : World} {base : Nat} {spare : Nat → Bool} {held : Bool} {t : TypeId} {f0 f1 f2 f3 f4 f5 : Field} {fuel : Nat} {cs : List Value} {x : DataW H × List MemPlace} (ht : P.underlying t = some (.struct #[f0, f1, f2, f3, f4, f5])) (h : DataW.trod enc P w base spare held fuel t cs = some x) :
    ∃ y0 y1 y2 y3 y4 y5 n, x = (.agg [y0.1, y1.1, y2.1, y3.1, y4.1, y5.1], y0.2 ++ (y1.2 ++ (y2.2 ++ (y3.2 ++ (y4.2 ++ y5.2))))) ∧ cs.length = P.cellsOf t ∧ DataW.trod enc P w base spare held n f0.type ((cs.drop f0.offset).take (P.cellsOf f0.type)) = some y0 ∧
      DataW.trod enc P w base spare held n f1.type ((cs.drop f1.offset).take (P.cellsOf f1.type)) = some y1 ∧ DataW.trod enc P w base spare held n f2.type ((cs.drop f2.offset).take (P.cellsOf f2.type)) = some y2 ∧
      DataW.trod enc P w base spare held n f3.type ((cs.drop f3.offset).take (P.cellsOf f3.type)) = some y3 ∧ DataW.trod enc P w base spare held n f4.type ((cs.drop f4.offset).take (P.cellsOf f4.type)) = some y4 ∧ DataW.trod enc P w base spare held n f5.type ((cs.drop f5.offset).take (P.cellsOf f5.type)) = some y5 := by
  obtain ⟨xs, n, _, rfl, hl, hlen, hf⟩ := DataW.trod_struct ht h
  match xs, hlen with
  | [y0, y1, y2, y3, y4, y5], _ => exact ⟨y0, y1, y2, y3, y4, y5, n, by simp, hl, by simpa using hf 0 f0 rfl, by simpa using hf 1 f1 rfl, by simpa using hf 2 f2 rfl, by simpa using hf 3 f3 rfl, by simpa using hf 4 f4 rfl, by simpa using hf 5 f5 rfl⟩
theorem trod_structA5 {H : Type} {enc : TypeId × Value → H} {P : Program} {w : World} {base : Nat} {spare : Nat → Bool} {held : Bool} {t : TypeId} {f0 f1 f2 f3 f4 : Field} {fuel : Nat} {cs : List Value} {x : DataW H × List MemPlace} (ht : P.underlying t = some (.struct #[f0, f1, f2, f3, f4])) (h : DataW.trod enc P w base spare held fuel t cs = some x) :
    ∃ y0 y1 y2 y3 y4 n, x = (.agg [y0.1, y1.1, y2.1, y3.1, y4.1], y0.2 ++ (y1.2 ++ (y2.2 ++ (y3.2 ++ y4.2)))) ∧ cs.length = P.cellsOf t ∧ DataW.trod enc P w base spare held n f0.type ((cs.drop f0.offset).take (P.cellsOf f0.type)) = some y0 ∧
      DataW.trod enc P w base spare held n f1.type ((cs.drop f1.offset).take (P.cellsOf f1.type)) = some y1 ∧ DataW.trod enc P w base spare held n f2.type ((cs.drop f2.offset).take (P.cellsOf f2.type)) = some y2 ∧
      DataW.trod enc P w base spare held n f3.type ((cs.drop f3.offset).take (P.cellsOf f3.type)) = some y3 ∧ DataW.trod enc P w base spare held n f4.type ((cs.drop f4.offset).take (P.cellsOf f4.type)) = some y4 := by
  obtain ⟨xs, n, _, rfl, hl, hlen, hf⟩ := DataW.trod_struct ht h
  match xs, hlen with
  | [y0, y1, y2, y3, y4], _ => exact ⟨y0, y1, y2, y3, y4, n, by simp, hl, by simpa using hf 0 f0 rfl, by simpa using hf 1 f1 rfl, by simpa using hf 2 f2 rfl, by simpa using hf 3 f3 rfl, by simpa using hf 4 f4 rfl⟩
theorem trod_structA4 {H : Type} {enc : TypeId × Value → H} {P : Program} {w : World} {base : Nat} {spare : Nat → Bool} {held : Bool} {t : TypeId} {f0 f1 f2 f3 : Field} {fuel : Nat} {cs : List Value} {x : DataW H × List MemPlace} (ht : P.underlying t = some (.struct #[f0, f1, f2, f3])) (h : DataW.trod enc P w base spare held fuel t cs = some x) :
    ∃ y0 y1 y2 y3 n, x = (.agg [y0.1, y1.1, y2.1, y3.1], y0.2 ++ (y1.2 ++ (y2.2 ++ y3.2))) ∧ cs.length = P.cellsOf t ∧ DataW.trod enc P w base spare held n f0.type ((cs.drop f0.offset).take (P.cellsOf f0.type)) = some y0 ∧
      DataW.trod enc P w base spare held n f1.type ((cs.drop f1.offset).take (P.cellsOf f1.type)) = some y1 ∧ DataW.trod enc P w base spare held n f2.type ((cs.drop f2.offset).take (P.cellsOf f2.type)) = some y2 ∧
      DataW.trod enc P w base spare held n f3.type ((cs.drop f3.offset).take (P.cellsOf f3.type)) = some y3 := by
  obtain ⟨xs, n, _, rfl, hl, hlen, hf⟩ := DataW.trod_struct ht h
  match xs, hlen with
  | [y0, y1, y2, y3], _ => exact ⟨y0, y1, y2, y3, n, by simp, hl, by simpa using hf 0 f0 rfl, by simpa using hf 1 f1 rfl, by simpa using hf 2 f2 rfl, by simpa using hf 3 f3 rfl⟩
section
variable {H : Type} {enc : TypeId × Value → H} {W : World} {fuel : Nat} {cs : List Value} {x : DataW H × List MemPlace}
set_option maxRecDepth 100000 in
theorem sfeet_trod (h : DataW.trod enc Tryz.prog W 0 (fun _ => true) true fuel 95 cs = some x) : ∃ num den : Int, cs = [.int .i64 num, .int .i64 den] ∧ i64 num ∧ i64 den := by
  obtain ⟨y0, y1, n, hx, hl, h0, h1⟩ := trod_structA2 Tryz.underlying95 h; have c1 : Tryz.prog.cellsOf 3 = 1 := (by kernel_rfl); have c7 : Tryz.prog.cellsOf 95 = 2 := (by kernel_rfl); rw [c7] at hl
  match cs, hl with
  | [u0, u1], _ =>
    simp only [c1, List.drop_zero, List.drop_succ_cons, List.take_succ_cons, List.take_zero] at h0 h1; obtain ⟨a, e0, _, ha⟩ := DataW.trod_int Tryz.underlying3 h0; obtain ⟨b, e1, _, hb⟩ := DataW.trod_int Tryz.underlying3 h1; simp at e0 e1; subst e0 e1; exact ⟨a, b, rfl, wf_i64 ha, wf_i64 hb⟩
set_option maxRecDepth 100000 in
theorem sdiv_trod (h : DataW.trod enc Tryz.prog W 0 (fun _ => true) true fuel 93 cs = some x) : ∃ r : DvV, cs = r.cells ∧ r.nm.size ≤ maxLen ∧ i64 r.lo ∧ i64 r.hi := by
  obtain ⟨y0, y1, y2, n, hx, hl, h0, h1, h2⟩ := trod_structA3 Tryz.underlying93 h; have c1 : Tryz.prog.cellsOf 3 = 1 := (by kernel_rfl); have c2 : Tryz.prog.cellsOf 9 = 1 := (by kernel_rfl); have c7 : Tryz.prog.cellsOf 93 = 3 := (by kernel_rfl); rw [c7] at hl
  match cs, hl with
  | [u0, u1, u2], _ =>
    simp only [c1, c2, List.drop_zero, List.drop_succ_cons, List.take_succ_cons, List.take_zero] at h0 h1 h2; obtain ⟨s, e0, _, hs⟩ := DataW.trod_string Tryz.underlying9 h0; obtain ⟨a, e1, _, ha⟩ := DataW.trod_int Tryz.underlying3 h1; obtain ⟨b, e2, _, hb⟩ := DataW.trod_int Tryz.underlying3 h2; simp at e0 e1 e2; subst e0 e1 e2; exact ⟨⟨s, a, b⟩, rfl, hs, wf_i64 ha, wf_i64 hb⟩
set_option maxRecDepth 100000 in
theorem srank_trod (h : DataW.trod enc Tryz.prog W 0 (fun _ => true) true fuel 97 cs = some x) : ∃ r : RnV, cs = r.cells ∧ r.nm.size ≤ maxLen ∧ i64 r.kd ∧ i64 r.fn ∧ i64 r.fd ∧ i64 r.lo ∧ i64 r.ct := by
  obtain ⟨y0, y1, y2, y3, y4, n, hx, hl, h0, h1, h2, h3, h4⟩ := trod_structA5 Tryz.underlying97 h; have c1 : Tryz.prog.cellsOf 3 = 1 := (by kernel_rfl); have c2 : Tryz.prog.cellsOf 9 = 1 := (by kernel_rfl); have c3 : Tryz.prog.cellsOf 95 = 2 := (by kernel_rfl); have c7 : Tryz.prog.cellsOf 97 = 6 := (by kernel_rfl); rw [c7] at hl
  match cs, hl with
  | [u0, u1, u2, u3, u4, u5], _ =>
    simp only [c1, c2, c3, List.drop_zero, List.drop_succ_cons, List.take_succ_cons, List.take_zero] at h0 h1 h2 h3 h4; obtain ⟨s, e0, _, hs⟩ := DataW.trod_string Tryz.underlying9 h0; obtain ⟨k, e1, _, hk⟩ := DataW.trod_int Tryz.underlying3 h1; obtain ⟨a, b, e2, ha, hb⟩ := sfeet_trod h2; obtain ⟨lo, e3, _, hlo⟩ := DataW.trod_int Tryz.underlying3 h3; obtain ⟨ct, e4, _, hct⟩ := DataW.trod_int Tryz.underlying3 h4; simp at e0 e1 e2 e3 e4; obtain ⟨e2, e2'⟩ := e2; subst e0 e1 e2 e2' e3 e4; exact ⟨⟨s, k, a, b, lo, ct⟩, rfl, hs, wf_i64 hk, ha, hb, wf_i64 hlo, wf_i64 hct⟩
set_option maxRecDepth 100000 in
theorem spart_trod (h : DataW.trod enc Tryz.prog W 0 (fun _ => true) true fuel 124 cs = some x) : ∃ r : PrV, cs = r.cells ∧ i64 r.rk ∧ i64 r.sh ∧ i64 r.lo ∧ i64 r.hi := by
  obtain ⟨y0, y1, y2, y3, n, hx, hl, h0, h1, h2, h3⟩ := trod_structA4 Tryz.underlying124 h; have c1 : Tryz.prog.cellsOf 3 = 1 := (by kernel_rfl); have c7 : Tryz.prog.cellsOf 124 = 4 := (by kernel_rfl); rw [c7] at hl
  match cs, hl with
  | [u0, u1, u2, u3], _ =>
    simp only [c1, List.drop_zero, List.drop_succ_cons, List.take_succ_cons, List.take_zero] at h0 h1 h2 h3; obtain ⟨a, e0, _, ha⟩ := DataW.trod_int Tryz.underlying3 h0; obtain ⟨b, e1, _, hb⟩ := DataW.trod_int Tryz.underlying3 h1; obtain ⟨c, e2, _, hc⟩ := DataW.trod_int Tryz.underlying3 h2; obtain ⟨d, e3, _, hd⟩ := DataW.trod_int Tryz.underlying3 h3; simp at e0 e1 e2 e3; subst e0 e1 e2 e3; exact ⟨⟨a, b, c, d⟩, rfl, wf_i64 ha, wf_i64 hb, wf_i64 hc, wf_i64 hd⟩
set_option maxRecDepth 100000 in
theorem scoup_trod (h : DataW.trod enc Tryz.prog W 0 (fun _ => true) true fuel 102 cs = some x) : ∃ r : CpV, cs = r.cells ∧ r.nm.size ≤ maxLen ∧ i64 r.fr ∧ i64 r.tt ∧ i64 r.sh ∧ i64 r.on := by
  obtain ⟨y0, y1, y2, y3, y4, y5, n, hx, hl, h0, h1, h2, h3, h4, h5⟩ := trod_structA6 Tryz.underlying102 h; have c1 : Tryz.prog.cellsOf 3 = 1 := (by kernel_rfl); have c2 : Tryz.prog.cellsOf 9 = 1 := (by kernel_rfl); have c3 : Tryz.prog.cellsOf 4 = 1 := (by kernel_rfl); have c7 : Tryz.prog.cellsOf 102 = 6 := (by kernel_rfl); rw [c7] at hl
  match cs, hl with
  | [u0, u1, u2, u3, u4, u5], _ =>
    simp only [c1, c2, c3, List.drop_zero, List.drop_succ_cons, List.take_succ_cons, List.take_zero] at h0 h1 h2 h3 h4 h5; obtain ⟨s, e0, _, hs⟩ := DataW.trod_string Tryz.underlying9 h0; obtain ⟨a, e1, _, ha⟩ := DataW.trod_int Tryz.underlying3 h1; obtain ⟨b, e2, _, hb⟩ := DataW.trod_int Tryz.underlying3 h2; obtain ⟨c, e3, _, hc⟩ := DataW.trod_int Tryz.underlying3 h3; obtain ⟨d, e4, _, hd⟩ := DataW.trod_int Tryz.underlying3 h4; obtain ⟨f, e5, _⟩ := DataW.trod_bool Tryz.underlying4 h5; simp at e0 e1 e2 e3 e4 e5; subst e0 e1 e2 e3 e4 e5; exact ⟨⟨s, a, b, c, d, f⟩, rfl, hs, wf_i64 ha, wf_i64 hb, wf_i64 hc, wf_i64 hd⟩
set_option maxRecDepth 100000 in
theorem sstop_trod (h : DataW.trod enc Tryz.prog W 0 (fun _ => true) true fuel 100 cs = some x) (hb : ∀ p ∈ x.2, p.block < W.heap.size) :
    ∃ r : SpV, cs = r.cells ∧ RowG W r.A r.n 4 PrV.cells r.ps ∧ r.nm.size ≤ maxLen ∧ i64 r.dv ∧ i64 r.fn ∧ i64 r.fd ∧ (r.n ≤ r.c ∧ r.c ≤ maxLen) ∧ ∀ p ∈ r.ps, i64 p.rk ∧ i64 p.sh ∧ i64 p.lo ∧ i64 p.hi := by
  obtain ⟨y0, y1, y2, y3, n, hx, hl, h0, h1, h2, h3⟩ := trod_structA4 Tryz.underlying100 h; have c1 : Tryz.prog.cellsOf 3 = 1 := (by kernel_rfl); have c2 : Tryz.prog.cellsOf 9 = 1 := (by kernel_rfl); have c3 : Tryz.prog.cellsOf 95 = 2 := (by kernel_rfl); have c4 : Tryz.prog.cellsOf 98 = 1 := (by kernel_rfl); have c7 : Tryz.prog.cellsOf 100 = 5 := (by kernel_rfl); rw [c7] at hl
  match cs, hl with
  | [u0, u1, u2, u3, u4], _ =>
    simp only [c1, c2, c3, c4, List.drop_zero, List.drop_succ_cons, List.take_succ_cons, List.take_zero] at h0 h1 h2 h3; obtain ⟨s, e0, _, hs⟩ := DataW.trod_string Tryz.underlying9 h0; obtain ⟨k, e1, _, hk⟩ := DataW.trod_int Tryz.underlying3 h1; obtain ⟨a, b, e2, ha, hb2⟩ := sfeet_trod h2; obtain ⟨A, n1, c, R, e3, g1, g2, g3⟩ := rows_trod (sz := 4) (fit := fun p : PrV => i64 p.rk ∧ i64 p.sh ∧ i64 p.lo ∧ i64 p.hi) (cells := PrV.cells) ⟨0, 0, 0, 0⟩ (fun _ => rfl) (by decide) Tryz.underlying98 (by kernel_rfl) (fun ht _ => spart_trod ht) h3 (fun p hp => hb p (by rw [hx]; simp [hp])); simp at e0 e1 e2; obtain ⟨e2, e2'⟩ := e2; subst e0 e1 e2 e2' e3; exact ⟨⟨s, k, a, b, A, n1, c, R⟩, rfl, g1, hs, wf_i64 hk, ha, hb2, g2, g3⟩
end
set_option maxRecDepth 100000 in
theorem spec_arg {H : Type} {enc : TypeId × Value → H} {W : World} {base : Nat} {v : Value} {d : DataW H} {ps : List MemPlace} (hval : Value.okWide Tryz.prog W .any base 27 v) (h : DataW.Trod enc Tryz.prog W 0 (fun _ => true) true 27 v d ps) (hb : ∀ p ∈ ps, p.block < W.heap.size) :
    ∃ o : SpO, v = .agg #[.slice o.A1 o.n1 o.c1, .slice o.A2 o.n2 o.c2, .slice o.A3 o.n3 o.c3, .slice o.A4 o.n4 o.c4] ∧ SpM W o ∧ SpF o := by
  obtain ⟨cs, rfl, hsz⟩ := okWide_struct Tryz.underlying27 hval; have c7 : Tryz.prog.cellsOf 27 = 4 := (by kernel_rfl); rw [c7] at hsz; obtain ⟨l⟩ := cs
  match l, hsz with
  | [v0, v1, v2, v3], _ =>
    obtain ⟨fuel, hf⟩ := h; obtain ⟨y0, y1, y2, y3, n, hx, _, h0, h1, h2, h3⟩ := trod_structA4 Tryz.underlying27 hf; have c1 : Tryz.prog.cellsOf 22 = 1 := (by kernel_rfl); have c2 : Tryz.prog.cellsOf 23 = 1 := (by kernel_rfl); have c3 : Tryz.prog.cellsOf 24 = 1 := (by kernel_rfl); have c4 : Tryz.prog.cellsOf 25 = 1 := (by kernel_rfl); simp only [Value.cells, c1, c2, c3, c4, List.drop_zero, List.drop_succ_cons, List.take_succ_cons, List.take_zero] at h0 h1 h2 h3; simp only [Prod.mk.injEq] at hx; obtain ⟨_, rfl⟩ := hx; obtain ⟨A1, n1, c1, R1, e1, a1, b1, f1⟩ := rows_trod (sz := 3) (fit := fun r : DvV => r.nm.size ≤ maxLen ∧ i64 r.lo ∧ i64 r.hi) (cells := DvV.cells) dv0 (fun _ => rfl) (by decide) Tryz.underlying22 (by kernel_rfl) (fun ht _ => sdiv_trod ht) h0 (fun p hp => hb p (by simp [hp])); obtain ⟨A2, n2, c2, R2, e2, a2, b2, f2⟩ := rows_trod (sz := 6) (fit := fun r : RnV => r.nm.size ≤ maxLen ∧ i64 r.kd ∧ i64 r.fn ∧ i64 r.fd ∧ i64 r.lo ∧ i64 r.ct) (cells := RnV.cells) rn0 (fun _ => rfl) (by decide) Tryz.underlying23 (by kernel_rfl) (fun ht _ => srank_trod ht) h1 (fun p hp => hb p (by simp [hp])); obtain ⟨A3, n3, c3, R3, e3, a3, b3, f3⟩ := rows_trod (sz := 5) (fit := fun r : SpV => RowG W r.A r.n 4 PrV.cells r.ps ∧ r.nm.size ≤ maxLen ∧ i64 r.dv ∧ i64 r.fn ∧ i64 r.fd ∧ (r.n ≤ r.c ∧ r.c ≤ maxLen) ∧ ∀ p ∈ r.ps, i64 p.rk ∧ i64 p.sh ∧ i64 p.lo ∧ i64 p.hi) (cells := SpV.cells) ⟨⟨#[]⟩, 0, 0, 0, none, 0, 0, []⟩ (fun _ => rfl) (by decide) Tryz.underlying24 (by kernel_rfl) (fun ht hp => sstop_trod ht hp) h2 (fun p hp => hb p (by simp [hp])); obtain ⟨A4, n4, c4, R4, e4, a4, b4, f4⟩ := rows_trod (sz := 6) (fit := fun r : CpV => r.nm.size ≤ maxLen ∧ i64 r.fr ∧ i64 r.tt ∧ i64 r.sh ∧ i64 r.on) (cells := CpV.cells) ⟨⟨#[]⟩, 0, 0, 0, 0, false⟩ (fun _ => rfl) (by decide) Tryz.underlying25 (by kernel_rfl) (fun ht _ => scoup_trod ht) h3 (fun p hp => hb p (by simp [hp])); subst e1 e2 e3 e4; exact ⟨⟨A1, n1, c1, R1, A2, n2, c2, R2, A3, n3, c3, R3, A4, n4, c4, R4⟩, rfl, ⟨a1, a2, a3, a4, fun x hx => (f3 x hx).1⟩, ⟨⟨b1, b2, b3, b4⟩, f1, f2, fun x hx => (f3 x hx).2, f4⟩⟩
set_option maxRecDepth 100000 in
theorem table_arg {H : Type} {enc : TypeId × Value → H} {W : World} {base : Nat} {v : Value} {d : DataW H} {ps : List MemPlace} (hval : Value.okWide Tryz.prog W .any base 30 v) (h : DataW.Trod enc Tryz.prog W 0 (fun _ => true) true 30 v d ps) (hb : ∀ p ∈ ps, p.block < W.heap.size) :
    ∃ T n c L, v = .agg #[.slice T n c] ∧ TbM W T n c L := by
  obtain ⟨cs, rfl, hsz⟩ := okWide_struct Tryz.underlying30 hval; have c7 : Tryz.prog.cellsOf 30 = 1 := (by kernel_rfl); rw [c7] at hsz; obtain ⟨l⟩ := cs
  match l, hsz with
  | [v0], _ =>
    obtain ⟨fuel, hf⟩ := h; obtain ⟨xs, n, _, hx, _, hlen, hff⟩ := DataW.trod_struct Tryz.underlying30 hf; have c1 : Tryz.prog.cellsOf 28 = 1 := (by kernel_rfl)
    match xs, hlen with
    | [y0], _ =>
      have h0 := hff 0 _ rfl; simp only [Value.cells, c1, List.drop_zero, List.take_succ_cons, List.take_zero, List.getElem_cons_zero] at h0; simp only [Prod.mk.injEq] at hx; obtain ⟨_, rfl⟩ := hx; obtain ⟨T, n, c, R, e1, a1, b1, f1⟩ := rows_div h0 (fun p hp => hb p (by simp [hp])); subst e1; exact ⟨T, n, c, R, rfl, a1, b1, f1⟩
end Go.Proofs.YtbaojmfkjpnfhaaGreatDoor
namespace Go.Proofs.YtbaojmfkjpnfhaaGreatDoor
open Go.ChangeShapes Go.WideShapes Go.ChangeAt Go.RowKit Go.Deep
set_option linter.unusedVariables false
set_option linter.unusedSimpArgs false
set_option maxRecDepth 100000 in
theorem place_arg {H : Type} {enc : TypeId × Value → H} {W : World} {base : Nat} {v : Value} {d : DataW H} {ps : List MemPlace} (hval : Value.okWide Tryz.prog W .any base 35 v) (h : DataW.Trod enc Tryz.prog W 0 (fun _ => true) true 35 v d ps) (hb : ∀ p ∈ ps, p.block < W.heap.size) :
    ∃ (z : Int) (r : RgV), v = .agg #[.int .i64 z, .slice r.A r.n r.c, .slice r.B r.m r.d] ∧ i64 z ∧ RgM W r := by
  obtain ⟨cs, rfl, hsz⟩ := okWide_struct Tryz.underlying35 hval; have c7 : Tryz.prog.cellsOf 35 = 3 := (by kernel_rfl); rw [c7] at hsz; obtain ⟨l⟩ := cs
  match l, hsz with
  | [v0, v1, v2], _ =>
    obtain ⟨fuel, hf⟩ := h; obtain ⟨y1, y2, n, hx, _, h1, h2⟩ := trod_structA2 Tryz.underlying35 hf; have c1 : Tryz.prog.cellsOf 3 = 1 := (by kernel_rfl); have c3 : Tryz.prog.cellsOf 33 = 2 := (by kernel_rfl); simp only [Value.cells, c1, c3, List.drop_zero, List.drop_succ_cons, List.take_succ_cons, List.take_zero] at h1 h2; simp only [Prod.mk.injEq] at hx; obtain ⟨_, rfl⟩ := hx; obtain ⟨b, e1, _, hb1⟩ := DataW.trod_int Tryz.underlying3 h1; obtain ⟨r, e2, g1, _⟩ := reg_trod h2 (fun p hp => hb p (by simp [hp])); simp at e1 e2; obtain ⟨e2, e3⟩ := e2; subst e1 e2 e3; exact ⟨b, r, rfl, wf_i64 hb1, g1⟩
end Go.Proofs.YtbaojmfkjpnfhaaGreatDoor
namespace Go.Proofs.YtbaojmfkjpnfhaaGreatDoor
set_option linter.unusedSimpArgs false
set_option linter.unusedVariables false
theorem cup_srt {d : Array Int} (hs : ∀ i j, i ≤ j → j < d.size → d[i]! ≤ d[j]!) : ∀ m, m ≤ d.size → (Lib.compactUpTo d m).Pairwise (· < ·) ∧ ∀ z, z ∈ Lib.compactUpTo d m ↔ ∃ j, j < m ∧ d[j]! = z
  | 0, _ => ⟨by simp [Lib.compactUpTo], fun z => ⟨fun h => by simp [Lib.compactUpTo] at h, fun ⟨j, h, _⟩ => absurd h (Nat.not_lt_zero _)⟩⟩
  | m+1, hm => by
    obtain ⟨i1, i2⟩ := cup_srt hs m (by omega); rw [Lib.compactUpTo_succ]
    by_cases hk : Lib.keeps d m = true
    · rw [if_pos hk]; have hk2 : m = 0 ∨ d[m]! ≠ d[m - 1]! := (by unfold Lib.keeps at hk; exact of_decide_eq_true hk); refine ⟨List.pairwise_append.2 ⟨i1, List.pairwise_singleton _ _, fun a ha b hb => ?_⟩, fun z => ?_⟩
      · have hb : b = d[m]! := (by simpa using hb); subst hb; obtain ⟨j, hj, rfl⟩ := (i2 a).1 ha; have h1 := hs j (m - 1) (by omega) (by omega); have h2 := hs (m - 1) m (by omega) (by omega); rcases hk2 with h3 | h3
        · omega
        · omega
      · rw [List.mem_append, i2 z]; constructor
        · rintro (⟨j, hj, e⟩ | h)
          · exact ⟨j, by omega, e⟩
          · exact ⟨m, by omega, by
            have h : z = d[m]! := (by simpa using h)
            exact h.symm⟩
        · rintro ⟨j, hj, e⟩; rcases Nat.lt_or_ge j m with h | h
          · exact .inl ⟨j, h, e⟩
          · obtain rfl : j = m := (by omega); exact .inr (by simp [e])
    · rw [if_neg hk, List.append_nil]; have hk2 : ¬ (m = 0 ∨ d[m]! ≠ d[m - 1]!) := (by unfold Lib.keeps at hk; exact fun h => hk (decide_eq_true h)); have hm0 : m ≠ 0 := fun h => hk2 (.inl h)
      have he : d[m]! = d[m - 1]! := Classical.byContradiction fun h => hk2 (.inr h)
      refine ⟨i1, fun z => (i2 z).trans ⟨fun ⟨j, hj, e⟩ => ⟨j, by omega, e⟩, fun ⟨j, hj, e⟩ => ?_⟩⟩; rcases Nat.lt_or_ge j m with h | h
      · exact ⟨j, h, e⟩
      · obtain rfl : j = m := (by omega); exact ⟨j - 1, by omega, by rw [← he]; exact e⟩
theorem uni_all (l : List Int) : (uniI l).Pairwise (· < ·) ∧ ∀ z, z ∈ uniI l ↔ z ∈ l := by
  have hp : (srtI l).Pairwise (fun a b => decide (a ≤ b) = true) := List.pairwise_mergeSort (fun a b c h1 h2 => by simp at *; omega) (fun a b => by simp; omega) l
  have hs : ∀ i j, i ≤ j → j < (srtI l).toArray.size → (srtI l).toArray[i]! ≤ (srtI l).toArray[j]! := fun i j hij hj => by
    have hj' : j < (srtI l).length := (by simpa using hj); rw [getElem!_pos _ i (by simp; omega), getElem!_pos _ j hj]; rcases Nat.lt_or_ge i j with h | h
    · have := List.pairwise_iff_getElem.1 hp i j (by omega) hj' h; simpa using this
    · obtain rfl : i = j := (by omega); exact Int.le_refl _
  obtain ⟨h1, h2⟩ := cup_srt hs (srtI l).length (by simp); refine ⟨h1, fun z => (h2 z).trans ?_⟩; have hm : z ∈ srtI l ↔ z ∈ l := (List.mergeSort_perm l _).mem_iff; rw [← hm]; constructor
  · rintro ⟨j, hj, e⟩; rw [← e, getElem!_pos _ j (by simpa using hj)]; simp
  · intro h; obtain ⟨j, hj, e⟩ := List.getElem_of_mem h; exact ⟨j, hj, by rw [getElem!_pos _ j (by simpa using hj)]; simpa using e⟩
theorem asc_uniq {a b : List Int} (ha : a.Pairwise (· < ·)) (hb : b.Pairwise (· < ·)) (h : ∀ z, z ∈ a ↔ z ∈ b) : a = b := srt_uniq (f := fun z => z) ha hb h
theorem gtI_mem {l : List Int} {x : Int} : x ∈ l ↔ ∃ k, k < l.length ∧ gt l k = x := by
  constructor
  · intro h; obtain ⟨k, hk, e⟩ := List.getElem_of_mem h; exact ⟨k, hk, by rw [gt, List.getElem?_eq_getElem hk]; exact e⟩
  · rintro ⟨k, hk, e⟩; rw [gt, List.getElem?_eq_getElem hk] at e; rw [← e]; exact List.getElem_mem hk
theorem drw_asc {l : List Int} {many : Int} (h : drwE l many = 0) : l.Pairwise (· < ·) ∧ ∀ x ∈ l, 0 ≤ x ∧ x < many := by
  refine ⟨List.pairwise_iff_getElem.2 fun i j hi hj hij => ?_, fun x hx => ?_⟩
  · have := (drwE_ok h hj).2 i hij; rw [gt, gt, List.getElem?_eq_getElem hi, List.getElem?_eq_getElem hj] at this; exact this
  · obtain ⟨k, hk, rfl⟩ := gtI_mem.1 hx; exact (drwE_ok h hk).1
structure StI (L : List (List Int)) (n : Nat) (pre : List Int) (s : StS) : Prop where
  pos : ∀ x : Int, 0 ≤ x → (0 < s.1 x.toNat ↔ (∃ l ∈ L.take n, x ∈ l) ∨ x ∈ pre)
  nn : ∀ y, 0 ≤ s.1 y
  tw0 : 0 ≤ s.2
  tw : 0 < s.2 ↔ (∃ k i a b, k < i ∧ i < n ∧ L[k]? = some a ∧ L[i]? = some b ∧ ∃ x, x ∈ a ∧ x ∈ b) ∨ ∃ x ∈ pre, ∃ l ∈ L.take n, x ∈ l
  val : s.2 = 0 → (∀ i a, i < n → L[i]? = some a → ∀ x ∈ a, s.1 x.toNat = (i : Int) + 1) ∧ ∀ x ∈ pre, s.1 x.toNat = (n : Int) + 1
theorem StI.one {L : List (List Int)} {n : Nat} {pre : List Int} {s : StS} {x : Int} (h : StI L n pre s) (hL : ∀ l ∈ L, ∀ x ∈ l, 0 ≤ x) (hp : ∀ y ∈ pre, 0 ≤ y) (hx : 0 ≤ x) (hnp : x ∉ pre) : StI L n (pre ++ [x]) (stU n s x) := by
  have hseen : 0 < s.1 x.toNat ↔ ∃ l ∈ L.take n, x ∈ l := by
    rw [h.pos x hx]; exact ⟨fun hh => hh.resolve_right hnp, .inl⟩
  have hz : ∀ y, 0 ≤ y → ((stU n s x).1 y.toNat = if y = x then (n : Int) + 1 else s.1 y.toNat) := fun y hy => by
    unfold stU; simp only []
    by_cases e : y = x
    · subst e; rw [if_pos rfl, if_pos rfl]
    · rw [if_neg (by omega), if_neg e]
  have ht : (stU n s x).2 = if 0 < s.1 x.toNat ∧ s.2 = 0 then (n : Int) + 1 else s.2 := rfl
  refine ⟨fun y hy => ?_, fun y => ?_, ?_, ?_, fun h0 => ?_⟩
  · rw [hz y hy]
    by_cases e : y = x
    · rw [if_pos e]; exact ⟨fun _ => .inr (by simp [e]), fun _ => by omega⟩
    · rw [if_neg e, h.pos y hy]; constructor
      · rintro (h1 | h1)
        · exact .inl h1
        · exact .inr (List.mem_append_left _ h1)
      · rintro (h1 | h1)
        · exact .inl h1
        · rcases List.mem_append.1 h1 with h1 | h1
          · exact .inr h1
          · exact absurd (by simpa using h1) e
  · unfold stU; simp only []
    split
    · omega
    · exact h.nn y
  · rw [ht]; have := h.tw0
    split <;> omega
  · have h1 : 0 < (stU n s x).2 ↔ 0 < s.2 ∨ 0 < s.1 x.toNat := by
      rw [ht]; have := h.tw0
      by_cases hc : 0 < s.1 x.toNat ∧ s.2 = 0
      · rw [if_pos hc]; exact ⟨fun _ => .inr hc.1, fun _ => by omega⟩
      · rw [if_neg hc]; exact ⟨.inl, fun hh => hh.elim id fun h2 => by have : ¬ s.2 = 0 := fun e => hc ⟨h2, e⟩; omega⟩
    rw [h1, hseen, h.tw]; constructor
    · rintro ((hh | ⟨y, hy, l, hl, hyl⟩) | ⟨l, hl, hxl⟩)
      · exact .inl hh
      · exact .inr ⟨y, List.mem_append_left _ hy, l, hl, hyl⟩
      · exact .inr ⟨x, by simp, l, hl, hxl⟩
    · rintro (hh | ⟨y, hy, l, hl, hyl⟩)
      · exact .inl (.inl hh)
      · rcases List.mem_append.1 hy with hy | hy
        · exact .inl (.inr ⟨y, hy, l, hl, hyl⟩)
        · have : y = x := (by simpa using hy); exact .inr ⟨l, hl, by rw [← this]; exact hyl⟩
  · rw [ht] at h0
    have hns : ¬ 0 < s.1 x.toNat := fun hc => by
      by_cases e : s.2 = 0
      · rw [if_pos ⟨hc, e⟩] at h0; omega
      · rw [if_neg (fun hh => e hh.2)] at h0; exact e h0
    have h00 : s.2 = 0 := (by rw [if_neg (fun hh => hns hh.1)] at h0; exact h0); obtain ⟨v1, v2⟩ := h.val h00; have hnl : ¬ ∃ l ∈ L.take n, x ∈ l := fun hh => hns (hseen.2 hh)
    refine ⟨fun i a hi ha y hy => ?_, fun y hy => ?_⟩
    · have hm : a ∈ L.take n := by
        refine List.mem_of_getElem? (i := i) ?_; rw [List.getElem?_take_of_lt hi]; exact ha
      rw [hz y (hL a (List.mem_of_getElem? ha) y hy), if_neg (fun e => hnl ⟨a, hm, by rw [← e]; exact hy⟩)]; exact v1 i a hi ha y hy
    · rcases List.mem_append.1 hy with hy | hy
      · rw [hz y (hp y hy), if_neg (fun e => hnp (by rw [← e]; exact hy))]; exact v2 y hy
      · have : y = x := (by simpa using hy); subst this; rw [hz y hx, if_pos rfl]
theorem StI.list {L : List (List Int)} {n : Nat} (hL : ∀ l ∈ L, ∀ x ∈ l, 0 ≤ x) : ∀ (l pre : List Int) (s : StS), StI L n pre s → (∀ y ∈ pre ++ l, 0 ≤ y) → (pre ++ l).Pairwise (· < ·) → StI L n (pre ++ l) (l.foldl (stU n) s)
  | [], pre, s, h, _, _ => by rw [List.append_nil]; exact h
  | x :: l, pre, s, h, h1, h2 => by
    rw [List.foldl_cons, show pre ++ x :: l = (pre ++ [x]) ++ l by simp]
    have hnp : x ∉ pre := fun hm => by
      have := (List.pairwise_append.1 h2).2.2 x hm x List.mem_cons_self; omega
    exact StI.list hL l (pre ++ [x]) _ (h.one hL (fun y hy => h1 y (List.mem_append_left _ hy)) (h1 x (by simp)) hnp) (by simpa using h1) (by simpa using h2)
theorem StI.next {L : List (List Int)} {n : Nat} {l : List Int} {s : StS} (h : StI L n l s) (hl : L[n]? = some l) : StI L (n + 1) [] s := by
  have hm : ∀ x : Int, (∃ a ∈ L.take (n + 1), x ∈ a) ↔ (∃ a ∈ L.take n, x ∈ a) ∨ x ∈ l := fun x => by
    rw [List.take_add_one, hl]; constructor
    · rintro ⟨a, ha, hx⟩; rcases List.mem_append.1 ha with ha | ha
      · exact .inl ⟨a, ha, hx⟩
      · have : a = l := (by simpa using ha); exact .inr (by rw [← this]; exact hx)
    · rintro (⟨a, ha, hx⟩ | hx)
      · exact ⟨a, List.mem_append_left _ ha, hx⟩
      · exact ⟨l, by simp, hx⟩
  refine ⟨fun x hx => ?_, h.nn, h.tw0, h.tw.trans ?_, fun h0 => ⟨fun i a hi ha x hx => ?_, fun x hx => by cases hx⟩⟩
  · rw [h.pos x hx, hm x]; exact ⟨.inl, fun hh => hh.elim id (fun e => by cases e)⟩
  · constructor
    · rintro (⟨k, i, a, b, h1, h2, h3, h4, h5⟩ | ⟨x, hx, a, ha, hxa⟩)
      · exact .inl ⟨k, i, a, b, h1, by omega, h3, h4, h5⟩
      · obtain ⟨k, hk, e⟩ := List.getElem_of_mem ha; have hkn : k < n := (by rw [List.length_take] at hk; omega); refine .inl ⟨k, n, a, l, hkn, by omega, ?_, hl, x, hxa, hx⟩; rw [← List.getElem?_take_of_lt hkn, List.getElem?_eq_getElem hk, e]
    · rintro (⟨k, i, a, b, h1, h2, h3, h4, x, hxa, hxb⟩ | ⟨x, hx, _⟩)
      · rcases Nat.lt_or_ge i n with h6 | h6
        · exact .inl ⟨k, i, a, b, h1, h6, h3, h4, x, hxa, hxb⟩
        · obtain rfl : i = n := (by omega); rw [hl] at h4; injection h4 with h4
          subst h4; refine .inr ⟨x, hxb, a, ?_, hxa⟩; refine List.mem_of_getElem? (i := k) ?_; rw [List.getElem?_take_of_lt h1]; exact h3
      · cases hx
  · obtain ⟨v1, v2⟩ := h.val h0; rcases Nat.lt_or_ge i n with h6 | h6
    · exact v1 i a h6 ha x hx
    · obtain rfl : i = n := (by omega); rw [hl] at ha; injection ha with ha
      subst ha; exact v2 x hx
theorem StI.all {L : List (List Int)} (hL : ∀ l ∈ L, l.Pairwise (· < ·) ∧ ∀ x ∈ l, 0 ≤ x) : ∀ (m n : Nat) (s : StS), L.length = n + m → StI L n [] s → StI L L.length [] (stV n (L.drop n) s)
  | 0, n, s, hn, h => by
    rw [List.drop_eq_nil_of_le (by omega), stV, show L.length = n by omega]; exact h
  | m+1, n, s, hn, h => by
    have hi : n < L.length := (by omega); have hx := List.getElem?_eq_getElem hi; generalize L[n] = l at hx; rw [stV_drop s hx]; have hl := hL l (List.mem_of_getElem? hx); have h1 := StI.list (fun l hl => (hL l hl).2) l [] s h (by simpa using hl.2) (by simpa using hl.1); rw [List.nil_append] at h1; exact StI.all hL m (n + 1) _ (by omega) (h1.next hx)
theorem stV_I {L : List (List Int)} (hL : ∀ l ∈ L, l.Pairwise (· < ·) ∧ ∀ x ∈ l, 0 ≤ x) : StI L L.length [] (stV 0 L (fun _ => 0, 0)) := by
  have h0 : StI L 0 [] ((fun _ => 0, 0) : StS) := by
    refine ⟨fun x _ => ⟨fun h => absurd h (by simp), fun h => ?_⟩, fun _ => Int.le_refl _, Int.le_refl _, ⟨fun h => absurd h (by simp), fun h => ?_⟩, fun _ => ⟨fun i _ h => absurd h (Nat.not_lt_zero _), fun x hx => by cases hx⟩⟩
    · rcases h with ⟨l, hl, _⟩ | h
      · rw [List.take_zero] at hl; cases hl
      · cases h
    · rcases h with ⟨_, i, _, _, _, h, _⟩ | ⟨x, hx, _⟩
      · exact absurd h (Nat.not_lt_zero _)
      · cases hx
  have := StI.all hL L.length 0 _ (by omega) h0
  rwa [List.drop_zero] at this
end Go.Proofs.YtbaojmfkjpnfhaaGreatDoor
namespace Go.Proofs.YtbaojmfkjpnfhaaGreatDoor
set_option linter.unusedSimpArgs false
set_option linter.unusedVariables false
theorem ndA_some {st : Nat → Int} : ∀ {l : List Int} {p q : Int}, ndA st l p = some q → (∀ x ∈ l, st x.toNat ≠ 0 ∧ st x.toNat ≤ q) ∧ p ≤ q ∧ (q = p ∨ ∃ x ∈ l, st x.toNat = q)
  | [], p, q, h => by
    have : p = q := (by injection h); subst this; exact ⟨fun x hx => (by cases hx), Int.le_refl _, .inl rfl⟩
  | y :: l, p, q, h => by
    rw [ndA] at h
    by_cases h0 : st y.toNat = 0
    · rw [if_pos h0] at h; cases h
    · rw [if_neg h0] at h; obtain ⟨h1, h2, h3⟩ := ndA_some h; have hm1 : p ≤ max p (st y.toNat) := Int.le_max_left _ _; have hm2 : st y.toNat ≤ max p (st y.toNat) := Int.le_max_right _ _; refine ⟨fun x hx => ?_, by omega, ?_⟩
      · rcases List.mem_cons.1 hx with rfl | hx
        · exact ⟨h0, by omega⟩
        · exact h1 x hx
      · rcases h3 with h3 | ⟨x, hx, e⟩
        · rcases Int.le_total p (st y.toNat) with h4 | h4
          · exact .inr ⟨y, List.mem_cons_self, by omega⟩
          · exact .inl (by omega)
        · exact .inr ⟨x, List.mem_cons_of_mem _ hx, e⟩
theorem ndA_none {st : Nat → Int} : ∀ {l : List Int} {p : Int}, ndA st l p = none → ∃ x ∈ l, st x.toNat = 0
  | [], p, h => by cases h
  | y :: l, p, h => by
    rw [ndA] at h
    by_cases h0 : st y.toNat = 0
    · exact ⟨y, List.mem_cons_self, h0⟩
    · rw [if_neg h0] at h; obtain ⟨x, hx, e⟩ := ndA_none h; exact ⟨x, List.mem_cons_of_mem _ hx, e⟩
theorem tabE_ok2 {o : SpO} {L : List RgV} (h : tabE o L = 0) : specE o = 0 ∧ L.length ≤ 60 ∧ ∀ i, i < L.length → tabK o L i = 0 := by
  unfold tabE at h
  by_cases h1 : specE o = 0
  · rw [if_pos h1] at h
    by_cases h2 : 60 < L.length
    · rw [if_pos h2] at h; cases h
    · rw [if_neg h2] at h; exact ⟨h1, by omega, fun i hi => fstE_zero h i (Nat.zero_le _) (by omega)⟩
  · rw [if_neg h1] at h; exact absurd h h1
theorem tabK_ok2 {o : SpO} {L : List RgV} {i : Nat} {r : RgV} (hr : L[i]? = some r) (h : tabK o L i = 0) : regE o r = 0 ∧ ¬ 0 < (stV 0 ((L.take (i + 1)).map RgV.l) (fun _ => 0, 0)).2 ∧ ¬ 0 < (stV 0 ((L.take (i + 1)).map RgV.k) (fun _ => 0, 0)).2 := by
  unfold tabK at h; rw [hr] at h; simp only [Option.getD_some] at h
  by_cases h1 : regE o r = 0
  · rw [if_pos h1] at h
    by_cases h2 : 0 < (stV 0 ((L.take (i + 1)).map RgV.l) (fun _ => 0, 0)).2 ∨ 0 < (stV 0 ((L.take (i + 1)).map RgV.k) (fun _ => 0, 0)).2
    · rw [if_pos h2] at h; cases h
    · exact ⟨h1, fun e => h2 (.inl e), fun e => h2 (.inr e)⟩
  · rw [if_neg h1] at h; exact absurd h h1
structure TOK (many : Int) (M : List (List Int)) : Prop where
  asc : ∀ l ∈ M, l.Pairwise (· < ·) ∧ ∀ x ∈ l, 0 ≤ x ∧ x < many
  tw : (stV 0 M (fun _ => 0, 0)).2 = 0
theorem TOK.i {many : Int} {M : List (List Int)} (h : TOK many M) : StI M M.length [] (stV 0 M (fun _ => 0, 0)) := stV_I fun l hl => ⟨(h.asc l hl).1, fun x hx => ((h.asc l hl).2 x hx).1⟩
theorem tok_of {o : SpO} {L : List RgV} (h : tabE o L = 0) : TOK (o.n3 : Int) (L.map RgV.l) ∧ TOK (o.n4 : Int) (L.map RgV.k) := by
  obtain ⟨_, _, h3⟩ := tabE_ok2 h
  have hreg : ∀ r ∈ L, regE o r = 0 := fun r hr => by
    obtain ⟨i, hi, e⟩ := List.getElem_of_mem hr; exact (tabK_ok2 (by rw [List.getElem?_eq_getElem hi, e]) (h3 i hi)).1
  have a1 : ∀ l ∈ L.map RgV.l, l.Pairwise (· < ·) ∧ ∀ x ∈ l, 0 ≤ x ∧ x < (o.n3 : Int) := fun l hl => by
    obtain ⟨r, hr, rfl⟩ := List.mem_map.1 hl; exact drw_asc (regE_ok (hreg r hr)).1
  have a2 : ∀ l ∈ L.map RgV.k, l.Pairwise (· < ·) ∧ ∀ x ∈ l, 0 ≤ x ∧ x < (o.n4 : Int) := fun l hl => by
    obtain ⟨r, hr, rfl⟩ := List.mem_map.1 hl; exact drw_asc (regE_ok (hreg r hr)).2
  have b1 := stV_I fun l hl => ⟨(a1 l hl).1, fun x hx => ((a1 l hl).2 x hx).1⟩
  have b2 := stV_I fun l hl => ⟨(a2 l hl).1, fun x hx => ((a2 l hl).2 x hx).1⟩
  rcases Nat.eq_zero_or_pos L.length with h0 | h0
  · have : L = [] := List.eq_nil_of_length_eq_zero h0; subst this; exact ⟨⟨a1, rfl⟩, ⟨a2, rfl⟩⟩
  · have hl : L.length - 1 < L.length := (by omega); obtain ⟨_, c1, c2⟩ := tabK_ok2 (List.getElem?_eq_getElem hl) (h3 _ hl); rw [show L.length - 1 + 1 = L.length by omega, List.take_length] at c1 c2; have := b1.tw0; have := b2.tw0; exact ⟨⟨a1, by omega⟩, ⟨a2, by omega⟩⟩
theorem TOK.by_ {many : Int} {M : List (List Int)} (h : TOK many M) {x : Int} (hx : 0 ≤ x) (p : Nat) : (∃ l ∈ M.take p, x ∈ l) ↔ (stV 0 M (fun _ => 0, 0)).1 x.toNat ≠ 0 ∧ (stV 0 M (fun _ => 0, 0)).1 x.toNat ≤ (p : Int) := by
  have hi := h.i; have hv := (hi.val h.tw).1; constructor
  · rintro ⟨l, hl, hxl⟩; obtain ⟨i, hi2, e⟩ := List.getElem_of_mem hl; have hip : i < p ∧ i < M.length := (by rw [List.length_take] at hi2; omega); have hg : M[i]? = some l := (by rw [← List.getElem?_take_of_lt hip.1, List.getElem?_eq_getElem hi2, e]); have := hv i l hip.2 hg x hxl; omega
  · rintro ⟨h1, h2⟩; have h3 : 0 < (stV 0 M (fun _ => 0, 0)).1 x.toNat := (by have := hi.nn x.toNat; omega); rcases (hi.pos x hx).1 h3 with ⟨l, hl, hxl⟩ | hh
    · rw [List.take_length] at hl; obtain ⟨i, hi2, e⟩ := List.getElem_of_mem hl; have hg : M[i]? = some l := (by rw [List.getElem?_eq_getElem hi2, e]); have := hv i l hi2 hg x hxl; refine ⟨l, List.mem_of_getElem? (i := i) ?_, hxl⟩; rw [List.getElem?_take_of_lt (by omega)]; exact hg
    · cases hh
def AllIn (L : List RgV) (r : RgV) (p : Nat) : Prop := (∀ x ∈ r.l, ∃ l ∈ (L.map RgV.l).take p, x ∈ l) ∧ ∀ x ∈ r.k, ∃ l ∈ (L.map RgV.k).take p, x ∈ l
theorem AllIn.mono {L : List RgV} {r : RgV} {p q : Nat} (h : AllIn L r p) (hpq : p ≤ q) : AllIn L r q := by
  have hh : ∀ M : List (List Int), ∀ l ∈ M.take p, l ∈ M.take q := fun M l hl => by
    have : M.take p = (M.take q).take p := (by rw [List.take_take, Nat.min_eq_left hpq]); rw [this] at hl; exact List.mem_of_mem_take hl
  exact ⟨fun x hx => by obtain ⟨l, hl, e⟩ := h.1 x hx; exact ⟨l, hh _ l hl, e⟩, fun x hx => by obtain ⟨l, hl, e⟩ := h.2 x hx; exact ⟨l, hh _ l hl, e⟩⟩
theorem nee_spec {o : SpO} {L : List RgV} {r : RgV} (h : botE o L r = 0) : ((neeF o L r).2 = 0 ∧ ∃ q : Nat, (neeF o L r).1 = (q : Int) ∧ q ≤ L.length ∧ AllIn L r q ∧ ∀ p, p < q → ¬ AllIn L r p) ∨ ((neeF o L r) = (0, 4) ∧ ∀ p, ¬ AllIn L r p) := by
  obtain ⟨h1, h2⟩ := botE_ok h; obtain ⟨t1, t2⟩ := tok_of h1; obtain ⟨r1, r2⟩ := regE_ok h2; have p1 := (drw_asc r1).2; have p2 := (drw_asc r2).2; have eS : stA L RgV.l = (stV 0 (L.map RgV.l) (fun _ => 0, 0)).1 := rfl; have eK : stA L RgV.k = (stV 0 (L.map RgV.k) (fun _ => 0, 0)).1 := rfl; unfold neeF; rw [if_pos h]
  cases e1 : ndA (stA L RgV.l) r.l 0 with
  | none =>
    refine .inr ⟨rfl, fun p hA => ?_⟩; obtain ⟨x, hx, e⟩ := ndA_none e1; exact ((t1.by_ (p1 x hx).1 p).1 (hA.1 x hx)).1 (by rw [← eS]; exact e)
  | some a =>
    cases e2 : ndA (stA L RgV.k) r.k a with
    | none =>
      refine .inr ⟨by simp only [e2], fun p hA => ?_⟩; obtain ⟨x, hx, e⟩ := ndA_none e2; exact ((t2.by_ (p2 x hx).1 p).1 (hA.2 x hx)).1 (by rw [← eK]; exact e)
    | some b =>
      refine .inl ⟨by simp only [e2], ?_⟩; simp only [e2]; obtain ⟨a1, a2, a3⟩ := ndA_some e1; obtain ⟨b1, b2, b3⟩ := ndA_some e2; obtain ⟨q, rfl⟩ := Int.eq_ofNat_of_zero_le (show 0 ≤ b by omega)
      have hlen : ∀ (M : List (List Int)) (many : Int) (ht : TOK many M) (x : Int), 0 ≤ x → (stV 0 M (fun _ => 0, 0)).1 x.toNat ≠ 0 → (stV 0 M (fun _ => 0, 0)).1 x.toNat ≤ (M.length : Int) := fun M many ht x hx hne => by
        have hi := ht.i; have h3 : 0 < (stV 0 M (fun _ => 0, 0)).1 x.toNat := (by have := hi.nn x.toNat; omega); rcases (hi.pos x hx).1 h3 with ⟨l, hl, hxl⟩ | hh
        · exact ((ht.by_ hx M.length).1 ⟨l, hl, hxl⟩).2
        · cases hh
      have hA : AllIn L r q := ⟨fun x hx => (t1.by_ (p1 x hx).1 q).2 (by rw [← eS]; exact ⟨(a1 x hx).1, by have := (a1 x hx).2; omega⟩), fun x hx => (t2.by_ (p2 x hx).1 q).2 (by rw [← eK]; exact b1 x hx)⟩
      have hmax : (q = 0) ∨ (∃ x ∈ r.l, (stV 0 (L.map RgV.l) (fun _ => 0, 0)).1 x.toNat = (q : Int)) ∨ ∃ x ∈ r.k, (stV 0 (L.map RgV.k) (fun _ => 0, 0)).1 x.toNat = (q : Int) := by
        rcases b3 with b3 | b3
        · rcases a3 with a3 | ⟨x, hx, e⟩
          · exact .inl (by omega)
          · exact .inr (.inl ⟨x, hx, by rw [← eS, e, b3]⟩)
        · exact .inr (.inr b3)
      refine ⟨q, rfl, ?_, hA, fun p hp hAp => ?_⟩
      · rcases hmax with h0 | ⟨x, hx, e⟩ | ⟨x, hx, e⟩
        · omega
        · have := hlen _ _ t1 x (p1 x hx).1 (by rw [← eS]; exact (a1 x hx).1); rw [List.length_map] at this; omega
        · have := hlen _ _ t2 x (p2 x hx).1 (by rw [← eK]; exact (b1 x hx).1); rw [List.length_map] at this; omega
      · rcases hmax with h0 | ⟨x, hx, e⟩ | ⟨x, hx, e⟩
        · omega
        · have := ((t1.by_ (p1 x hx).1 p).1 (hAp.1 x hx)).2; omega
        · have := ((t2.by_ (p2 x hx).1 p).1 (hAp.2 x hx)).2; omega
theorem at_mem {o : SpO} {L : List RgV} {r : RgV} {p : Nat} (h : botE o L r = 0) (hp : p ≤ L.length) (f : RgV → List Int) : atE o L r p = 0 ∧ (atL o L r p f).Pairwise (· < ·) ∧ ∀ z, z ∈ atL o L r p f ↔ z ∈ f r ∨ ∃ l ∈ (L.map f).take p, z ∈ l := by
  have he : atE o L r p = 0 := (by unfold atE; rw [if_pos h, if_neg (by omega)]); unfold atL; rw [if_pos he]; refine ⟨he, (uni_all _).1, fun z => ?_⟩; rw [(uni_all _).2, List.mem_append, List.mem_flatten, Int.toNat_natCast, List.map_take]
end Go.Proofs.YtbaojmfkjpnfhaaGreatDoor
namespace Go.Proofs.YtbaojmfkjpnfhaaGreatDoor
set_option linter.unusedSimpArgs false
set_option linter.unusedVariables false
theorem fstE_congr {f g : Nat → Int} : ∀ n k, (∀ i, k ≤ i → i < k + n → (∀ j, k ≤ j → j < i → f j = 0) → f i = g i) → fstE f n k = fstE g n k
  | 0, k, _ => rfl
  | n+1, k, h => by
    rw [fstE, fstE, ← h k (Nat.le_refl _) (by omega) (fun j h1 h2 => by omega)]
    by_cases h0 : f k = 0
    · rw [if_pos h0, if_pos h0]; refine fstE_congr n (k + 1) fun i h1 h2 h3 => h i (by omega) (by omega) fun j h4 h5 => ?_
      rcases Nat.lt_or_ge k j with h6 | h6
      · exact h3 j h6 h5
      · rw [show j = k by omega]; exact h0
    · rw [if_neg h0, if_neg h0]
def meB (a b : List Int) : Bool := a.any fun x => decide (x ∈ b)
theorem meB_iff {a b : List Int} : meB a b = true ↔ ∃ x, x ∈ a ∧ x ∈ b := by
  unfold meB; rw [List.any_eq_true]; exact ⟨fun ⟨x, h1, h2⟩ => ⟨x, h1, of_decide_eq_true h2⟩, fun ⟨x, h1, h2⟩ => ⟨x, h1, decide_eq_true h2⟩⟩
def twS (L : List RgV) (r : RgV) (n : Nat) : Bool := (L.take n).any fun s => meB r.l s.l || meB r.k s.k
theorem twS_succ {L : List RgV} {r s : RgV} {n : Nat} (h : L[n]? = some s) : twS L r (n + 1) = (twS L r n || (meB r.l s.l || meB r.k s.k)) := by
  unfold twS; rw [List.take_add_one, h, List.any_append]; simp
theorem twS_mono {L : List RgV} {r : RgV} {n m : Nat} (h : twS L r n = true) (hm : n ≤ m) : twS L r m = true := by
  unfold twS at h ⊢; obtain ⟨y, hy, e⟩ := List.any_eq_true.1 h; refine List.any_eq_true.2 ⟨y, ?_, e⟩; have : L.take n = (L.take m).take n := (by rw [List.take_take, Nat.min_eq_left hm]); rw [this] at hy; exact List.mem_of_mem_take hy
def rtK (o : SpO) (L : List RgV) (i : Nat) : Int := if regE o (L[i]?.getD rg0) = 0 then (if twS L (L[i]?.getD rg0) i = true then 8 else 0) else regE o (L[i]?.getD rg0)
theorem pair_iff {L : List RgV} {i : Nat} {r : RgV} {f : RgV → List Int} (hr : L[i]? = some r) (hA : ∀ s ∈ L.take (i + 1), (f s).Pairwise (· < ·) ∧ ∀ x ∈ f s, 0 ≤ x)
    (hp : ∀ j, j < i → ¬ 0 < (stV 0 ((L.take (j + 1)).map f) (fun _ => 0, 0)).2) : 0 < (stV 0 ((L.take (i + 1)).map f) (fun _ => 0, 0)).2 ↔ ∃ s ∈ L.take i, ∃ x, x ∈ f r ∧ x ∈ f s := by
  have hsub : ∀ j, j ≤ i → ∀ s ∈ L.take (j + 1), s ∈ L.take (i + 1) := fun j hj s hs => by
    have : L.take (j + 1) = (L.take (i + 1)).take (j + 1) := (by rw [List.take_take, Nat.min_eq_left (by omega)]); rw [this] at hs; exact List.mem_of_mem_take hs
  have hI : ∀ j, j ≤ i → StI ((L.take (j + 1)).map f) ((L.take (j + 1)).map f).length [] (stV 0 ((L.take (j + 1)).map f) (fun _ => 0, 0)) := fun j hj => stV_I fun l hl => by
    obtain ⟨s, hs, rfl⟩ := List.mem_map.1 hl; exact hA s (hsub j hj s hs)
  have hlt : i < L.length := (List.getElem?_eq_some_iff.1 hr).1
  have hget : ∀ j k a, ((L.take (j + 1)).map f)[k]? = some a → k ≤ j ∧ ∃ s, L[k]? = some s ∧ f s = a := fun j k a h => by
    rw [List.getElem?_map] at h; obtain ⟨s, hs, e⟩ := Option.map_eq_some_iff.1 h; have hk : k < j + 1 := (by have := (List.getElem?_eq_some_iff.1 hs).1; rw [List.length_take] at this; omega); rw [List.getElem?_take_of_lt hk] at hs; exact ⟨by omega, s, hs, e⟩
  have hlen : ∀ j, j ≤ i → ((L.take (j + 1)).map f).length = j + 1 := fun j hj => by rw [List.length_map, List.length_take]; omega
  have hput : ∀ j k s, k ≤ j → L[k]? = some s → ((L.take (j + 1)).map f)[k]? = some (f s) := fun j k s hk hs => by
    rw [List.getElem?_map, List.getElem?_take_of_lt (by omega), hs]; rfl
  rw [(hI i (Nat.le_refl _)).tw]; constructor
  · rintro (⟨k, i', a, b, h1, h2, h3, h4, x, hxa, hxb⟩ | ⟨x, hx, _⟩)
    · rw [hlen i (Nat.le_refl _)] at h2; obtain ⟨_, s, hs, rfl⟩ := hget i k a h3; obtain ⟨_, s', hs', rfl⟩ := hget i i' b h4; rcases Nat.lt_or_ge i' i with h5 | h5
      · exfalso; refine hp i' h5 ((hI i' (by omega)).tw.2 (.inl ⟨k, i', f s, f s', h1, by rw [hlen i' (by omega)]; omega, hput i' k s (by omega) hs, hput i' i' s' (Nat.le_refl _) hs', x, hxa, hxb⟩))
      · obtain rfl : i' = i := (by omega); rw [hr] at hs'; injection hs' with hs'
        subst hs'; refine ⟨s, List.mem_of_getElem? (i := k) ?_, x, hxb, hxa⟩; rw [List.getElem?_take_of_lt h1]; exact hs
    · cases hx
  · rintro ⟨s, hs, x, h1, h2⟩; obtain ⟨k, hk, e⟩ := List.getElem_of_mem hs; have hki : k < i := (by rw [List.length_take] at hk; omega); have hsk : L[k]? = some s := (by rw [← List.getElem?_take_of_lt hki, List.getElem?_eq_getElem hk, e]); exact .inl ⟨k, i, f s, f r, hki, by rw [hlen i (Nat.le_refl _)]; omega, hput i k s (by omega) hsk, hput i i r (Nat.le_refl _) hr, x, h2, h1⟩
theorem tabK_rtK {o : SpO} {L : List RgV} {i : Nat} (hi : i < L.length) (h : ∀ j, 0 ≤ j → j < i → tabK o L j = 0) : tabK o L i = rtK o L i := by
  obtain ⟨r, hr⟩ : ∃ r, L[i]? = some r := ⟨_, List.getElem?_eq_getElem hi⟩; have hK : tabK o L i = if regE o r = 0 then (if 0 < (stV 0 ((L.take (i + 1)).map RgV.l) (fun _ => 0, 0)).2 ∨ 0 < (stV 0 ((L.take (i + 1)).map RgV.k) (fun _ => 0, 0)).2 then 8 else 0) else regE o r := (by unfold tabK; rw [hr]; rfl)
  have hR : rtK o L i = if regE o r = 0 then (if twS L r i = true then 8 else 0) else regE o r := (by unfold rtK; rw [hr]; rfl)
  rw [hK, hR]
  by_cases h0 : regE o r = 0
  · rw [if_pos h0, if_pos h0]
    have hprev : ∀ j, j < i → ∃ s, L[j]? = some s ∧ regE o s = 0 ∧ ¬ 0 < (stV 0 ((L.take (j + 1)).map RgV.l) (fun _ => 0, 0)).2 ∧ ¬ 0 < (stV 0 ((L.take (j + 1)).map RgV.k) (fun _ => 0, 0)).2 := fun j hj => by
      obtain ⟨s, hs⟩ : ∃ s, L[j]? = some s := ⟨_, List.getElem?_eq_getElem (by omega)⟩; exact ⟨s, hs, tabK_ok2 hs (h j (Nat.zero_le _) hj)⟩
    have hall : ∀ s ∈ L.take (i + 1), regE o s = 0 := fun s hs => by
      obtain ⟨j, hj, e⟩ := List.getElem_of_mem hs; have hj1 : j < i + 1 := (by rw [List.length_take] at hj; omega); have hsj : L[j]? = some s := (by rw [← List.getElem?_take_of_lt hj1, List.getElem?_eq_getElem hj, e]); rcases Nat.lt_or_ge j i with h1 | h1
      · obtain ⟨s', hs', e', _⟩ := hprev j h1; rw [hsj] at hs'; injection hs' with hs'
        rw [hs']; exact e'
      · obtain rfl : j = i := (by omega); rw [hr] at hsj; injection hsj with hsj
        rw [← hsj]; exact h0
    have p1 := pair_iff (f := RgV.l) hr (fun s hs => by have := drw_asc (regE_ok (hall s hs)).1; exact ⟨this.1, fun x hx => (this.2 x hx).1⟩) (fun j hj => by obtain ⟨s, _, _, e, _⟩ := hprev j hj; exact e); have p2 := pair_iff (f := RgV.k) hr (fun s hs => by have := drw_asc (regE_ok (hall s hs)).2; exact ⟨this.1, fun x hx => (this.2 x hx).1⟩) (fun j hj => by obtain ⟨s, _, _, _, e⟩ := hprev j hj; exact e)
    have : (0 < (stV 0 ((L.take (i + 1)).map RgV.l) (fun _ => 0, 0)).2 ∨ 0 < (stV 0 ((L.take (i + 1)).map RgV.k) (fun _ => 0, 0)).2) ↔ twS L r i = true := by
      rw [p1, p2]; unfold twS; rw [List.any_eq_true]; constructor
      · rintro (⟨s, hs, hx⟩ | ⟨s, hs, hx⟩)
        · exact ⟨s, hs, by rw [meB_iff.2 hx]; rfl⟩
        · exact ⟨s, hs, by rw [meB_iff.2 hx, Bool.or_true]⟩
      · rintro ⟨s, hs, e⟩; rcases Bool.or_eq_true_iff.1 e with e | e
        · exact .inl ⟨s, hs, meB_iff.1 e⟩
        · exact .inr ⟨s, hs, meB_iff.1 e⟩
    by_cases ht : twS L r i = true
    · rw [if_pos ht, if_pos (this.2 ht)]
    · rw [if_neg ht, if_neg (fun hh => ht (this.1 hh))]
  · rw [if_neg h0, if_neg h0]
theorem rtab_eq (o : SpO) (L : List RgV) : tabE o L = if specE o = 0 then (if 60 < L.length then 3 else fstE (rtK o L) L.length 0) else specE o := by
  unfold tabE; rw [fstE_congr (f := tabK o L) (g := rtK o L) L.length 0 fun i _ h2 h3 => tabK_rtK (by omega) h3]
def addL (many : Nat) (L : List RgV) (p : Nat) (r : RgV) (f : RgV → List Int) : Nat → List Int
  | 0 => []
  | n+1 => addL many L p r f n ++ (if (decide ((n : Int) ∈ f r) || (L.take p).any fun s => decide ((n : Int) ∈ f s)) = true then [(n : Int)] else [])
theorem addL_mem {many : Nat} {L : List RgV} {p : Nat} {r : RgV} {f : RgV → List Int} : ∀ n z, z ∈ addL many L p r f n ↔ (0 ≤ z ∧ z < (n : Int)) ∧ (z ∈ f r ∨ ∃ l ∈ (L.map f).take p, z ∈ l)
  | 0, z => ⟨fun h => (by cases h), fun h => (by omega)⟩
  | n+1, z => by
    have hc : (decide ((n : Int) ∈ f r) || (L.take p).any fun s => decide ((n : Int) ∈ f s)) = true ↔ ((n : Int) ∈ f r ∨ ∃ l ∈ (L.map f).take p, (n : Int) ∈ l) := by
      rw [Bool.or_eq_true_iff, decide_eq_true_iff, List.any_eq_true, ← List.map_take]; constructor
      · rintro (h | ⟨s, hs, e⟩)
        · exact .inl h
        · exact .inr ⟨f s, List.mem_map.2 ⟨s, hs, rfl⟩, of_decide_eq_true e⟩
      · rintro (h | ⟨l, hl, e⟩)
        · exact .inl h
        · obtain ⟨s, hs, rfl⟩ := List.mem_map.1 hl; exact .inr ⟨s, hs, decide_eq_true e⟩
    rw [addL, List.mem_append, addL_mem n z]
    by_cases h : (decide ((n : Int) ∈ f r) || (L.take p).any fun s => decide ((n : Int) ∈ f s)) = true
    · rw [if_pos h, List.mem_singleton]; constructor
      · rintro (⟨h1, h2⟩ | rfl)
        · exact ⟨by omega, h2⟩
        · exact ⟨by omega, hc.1 h⟩
      · rintro ⟨h1, h2⟩; rcases Int.lt_or_le z (n : Int) with h3 | h3
        · exact .inl ⟨by omega, h2⟩
        · exact .inr (by omega)
    · rw [if_neg h]; constructor
      · rintro (⟨h1, h2⟩ | h2)
        · exact ⟨by omega, h2⟩
        · cases h2
      · rintro ⟨h1, h2⟩; rcases Int.lt_or_le z (n : Int) with h3 | h3
        · exact .inl ⟨by omega, h2⟩
        · obtain rfl : z = (n : Int) := (by omega); exact absurd (hc.2 h2) h
theorem addL_asc {many : Nat} {L : List RgV} {p : Nat} {r : RgV} {f : RgV → List Int} : ∀ n, (addL many L p r f n).Pairwise (· < ·)
  | 0 => List.Pairwise.nil
  | n+1 => by
    rw [addL]; refine List.pairwise_append.2 ⟨addL_asc n, ?_, fun a ha b hb => ?_⟩
    · split
      · exact List.pairwise_singleton _ _
      · exact List.Pairwise.nil
    · have h1 := ((addL_mem n a).1 ha).1
      split at hb
      · rw [List.mem_singleton.1 hb]; omega
      · cases hb
theorem addL_len {many : Nat} {L : List RgV} {p : Nat} {r : RgV} {f : RgV → List Int} : ∀ n, (addL many L p r f n).length ≤ n
  | 0 => Nat.le_refl _
  | n+1 => by
    rw [addL, List.length_append]; have := addL_len (many := many) (L := L) (p := p) (r := r) (f := f) n
    split
    · simp; omega
    · simp; omega
theorem add_eq {o : SpO} {L : List RgV} {r : RgV} {p : Nat} (h : botE o L r = 0) (hp : p ≤ L.length) : addL o.n3 L p r RgV.l o.n3 = atL o L r p RgV.l ∧ addL o.n4 L p r RgV.k o.n4 = atL o L r p RgV.k := by
  obtain ⟨h1, h2⟩ := botE_ok h; obtain ⟨t1, t2⟩ := tok_of h1; obtain ⟨r1, r2⟩ := regE_ok h2; obtain ⟨_, a1, a2⟩ := at_mem h hp RgV.l; obtain ⟨_, b1, b2⟩ := at_mem h hp RgV.k; refine ⟨asc_uniq (addL_asc _) a1 fun z => ?_, asc_uniq (addL_asc _) b1 fun z => ?_⟩
  · rw [addL_mem, a2]; refine ⟨fun h => h.2, fun h => ⟨?_, h⟩⟩; rcases h with h | ⟨l, hl, hz⟩
    · exact (drw_asc r1).2 z h
    · exact (t1.asc l (List.mem_of_mem_take hl)).2 z hz
  · rw [addL_mem, b2]; refine ⟨fun h => h.2, fun h => ⟨?_, h⟩⟩; rcases h with h | ⟨l, hl, hz⟩
    · exact (drw_asc r2).2 z h
    · exact (t2.asc l (List.mem_of_mem_take hl)).2 z hz
end Go.Proofs.YtbaojmfkjpnfhaaGreatDoor
namespace Go.Proofs.YtbaojmfkjpnfhaaGreatDoor
set_option linter.unusedSimpArgs false
open Go.RowKit
set_option linter.unusedVariables false
def letC (b : UInt8) : Bool := (decide (65 ≤ b.toNat) && decide (b.toNat ≤ 90)) || (decide (97 ≤ b.toNat) && decide (b.toNat ≤ 122))
def okC (i : Nat) (b : UInt8) : Bool := letC b || (decide (i ≠ 0) && (decide (b.toNat = 95) || (decide (48 ≤ b.toNat) && decide (b.toNat ≤ 57))))
def nameC (s : ByteArray) : Bool := decide ((1 ≤ s.size ∧ s.size ≤ 16) ∧ ∀ i, (h : i < s.size) → okC i s[i] = true)
theorem nameC_false {s : ByteArray} {k : Nat} (hk : k < s.size) (h : okC k s[k] = false) : nameC s = false := by
  unfold nameC; rw [decide_eq_false_iff_not]; rintro ⟨_, h2⟩; rw [h2 k hk] at h
  cases h
theorem nameC_size {s : ByteArray} (h : s.size < 1 ∨ 16 < s.size) : nameC s = false := by
  unfold nameC; rw [decide_eq_false_iff_not]; rintro ⟨h1, _⟩; omega
theorem nameC_true {s : ByteArray} (h : 1 ≤ s.size ∧ s.size ≤ 16) (h2 : ∀ i, (h : i < s.size) → okC i s[i] = true) : nameC s = true := by
  unfold nameC; rw [decide_eq_true_iff]; exact ⟨h, h2⟩
theorem r1let_c (b : UInt8) (w : World) : Calls Tryz.prog 167 #[.int .u8 (b.toNat : Int)] w fun e w' => e = .returned (.bool (letC b)) ∧ w' = w := by
  by_cases h1 : 97 ≤ b.toNat
  · have b1 : decide ((97 : Int) ≤ (b.toNat : Int)) = true := (by rw [decide_eq_true_iff]; omega)
    by_cases h2 : b.toNat ≤ 122
    · have b2 : decide ((b.toNat : Int) ≤ 122) = true := (by rw [decide_eq_true_iff]; omega); have HF : Sl (letC b = true) := ⟨by unfold letC; rw [decide_eq_true h1, decide_eq_true h2]; simp⟩; clear h1 h2; go_enter Tryz.func167, Tryz.ntmps167; go_wp2_with fail; go_ret; rw [HF.out]; exact ⟨rfl, rfl⟩
    · have b2 : decide ((b.toNat : Int) ≤ 122) = false := (by rw [decide_eq_false_iff_not]; omega); have b3 : decide ((65 : Int) ≤ (b.toNat : Int)) = true := (by rw [decide_eq_true_iff]; omega); have b4 : decide ((b.toNat : Int) ≤ 90) = false := (by rw [decide_eq_false_iff_not]; omega); have HF : Sl (letC b = false) := ⟨by unfold letC; rw [decide_eq_false h2, decide_eq_false (p := b.toNat ≤ 90) (by omega)]; simp⟩; clear h1 h2; go_enter Tryz.func167, Tryz.ntmps167; go_wp2_with fail; go_ret; rw [HF.out]; exact ⟨rfl, rfl⟩
  · have b1 : decide ((97 : Int) ≤ (b.toNat : Int)) = false := (by rw [decide_eq_false_iff_not]; omega)
    by_cases h3 : 65 ≤ b.toNat
    · have b3 : decide ((65 : Int) ≤ (b.toNat : Int)) = true := (by rw [decide_eq_true_iff]; omega)
      by_cases h4 : b.toNat ≤ 90
      · have b4 : decide ((b.toNat : Int) ≤ 90) = true := (by rw [decide_eq_true_iff]; omega); have HF : Sl (letC b = true) := ⟨by unfold letC; rw [decide_eq_true h3, decide_eq_true h4]; simp⟩; clear h1 h3 h4; go_enter Tryz.func167, Tryz.ntmps167; go_wp2_with fail; go_ret; rw [HF.out]; exact ⟨rfl, rfl⟩
      · have b4 : decide ((b.toNat : Int) ≤ 90) = false := (by rw [decide_eq_false_iff_not]; omega); have HF : Sl (letC b = false) := ⟨by unfold letC; rw [decide_eq_false h4, decide_eq_false h1]; simp⟩; clear h1 h3 h4; go_enter Tryz.func167, Tryz.ntmps167; go_wp2_with fail; go_ret; rw [HF.out]; exact ⟨rfl, rfl⟩
    · have b3 : decide ((65 : Int) ≤ (b.toNat : Int)) = false := (by rw [decide_eq_false_iff_not]; omega); have HF : Sl (letC b = false) := ⟨by unfold letC; rw [decide_eq_false h3, decide_eq_false h1]; simp⟩; clear h1 h3; go_enter Tryz.func167, Tryz.ntmps167; go_wp2_with fail; go_ret; rw [HF.out]; exact ⟨rfl, rfl⟩
theorem r1dig_c (b : UInt8) (w : World) : Calls Tryz.prog 168 #[.int .u8 (b.toNat : Int)] w fun e w' => e = .returned (.bool (decide (48 ≤ b.toNat) && decide (b.toNat ≤ 57))) ∧ w' = w := by
  by_cases h : 48 ≤ b.toNat
  · have hb : decide ((48 : Int) ≤ (b.toNat : Int)) = true := (by rw [decide_eq_true_iff]; omega); go_enter Tryz.func168, Tryz.ntmps168; go_wp2_with fail; go_ret; rw [decide_eq_true h, Bool.true_and]
    by_cases h2 : b.toNat ≤ 57
    · rw [decide_eq_true h2, decide_eq_true (by omega)]; exact ⟨rfl, rfl⟩
    · rw [decide_eq_false h2, decide_eq_false (by omega)]; exact ⟨rfl, rfl⟩
  · have hb : decide ((48 : Int) ≤ (b.toNat : Int)) = false := (by rw [decide_eq_false_iff_not]; omega); go_enter Tryz.func168, Tryz.ntmps168; go_wp2_with fail; go_ret; rw [decide_eq_false h, Bool.false_and]; exact ⟨rfl, rfl⟩
set_option maxHeartbeats 1600000 in
set_option maxRecDepth 100000 in
theorem r1nam_c (s : ByteArray) (w : World) (hs : s.size ≤ maxLen) : Calls Tryz.prog 126 #[.string s] w fun e w' => e = .returned (.bool (nameC s)) ∧ Below w.heap.size w w' := by
  unfold maxLen at hs
  by_cases h1 : s.size < 1
  · have HF : Sl (nameC s = false) := ⟨nameC_size (.inl h1)⟩; go_enter Tryz.func126, Tryz.ntmps126; go_wp2_with fail; go_ret; rw [HF.out]; exact ⟨rfl, Below.refl _ _⟩
  by_cases h2 : 16 < s.size
  · have HF : Sl (nameC s = false) := ⟨nameC_size (.inr h2)⟩; go_enter Tryz.func126, Tryz.ntmps126; go_wp2_with fail; go_ret; rw [HF.out]; exact ⟨rfl, Below.refl _ _⟩
  have h0 : 0 < s.size := (by omega); have HL0 : Sl (∀ W : World, Calls Tryz.prog 167 #[.int .u8 (s[0].toNat : Int)] W fun e w' => e = .returned (.bool (letC s[0])) ∧ w' = W) := ⟨fun W => r1let_c s[0] W⟩; have HOK0 : Sl (okC 0 s[0] = letC s[0]) := ⟨by unfold okC; simp⟩; have HF0 : Sl (okC 0 s[0] = false → nameC s = false) := ⟨fun h => nameC_false h0 h⟩; generalize hL : letC s[0] = L at *
  go_enter Tryz.func126, Tryz.ntmps126; go_wp2_with fail; refine (HL0.out _).mono ?_; rintro e w1 ⟨rfl, rfl⟩
  cases L
  · have HF : Sl _ := ⟨HF0.out HOK0.out⟩; clear HF0 HOK0 hL; go_wp2_with fail; go_ret; rw [HF.out]; exact ⟨rfl, Below.refl _ _⟩
  have HLT : Sl (letC s[0] = true) := ⟨hL⟩; clear hL HF0 HOK0 HL0; go_wp2_with fail
  go_loopw [3] (fun s3 wr => ∃ k : Nat, k ≤ s.size ∧ s3 = .int .i64 k ∧ Sl (∀ i, (h : i < s.size) → i < k → okC i s[i] = true) ∧ Below w1.heap.size w1 wr) (fun s3 _ => s.size - (RowKit.intOf s3).toNat)
  case atStart => exact ⟨0, Nat.zero_le _, rfl, ⟨fun i _ h => absurd h (Nat.not_lt_zero _)⟩, Below.refl _ _⟩
  case round =>
    obtain ⟨k, hk, rfl, HV, hB⟩ := hrel
    by_cases hlt : k < s.size
    · have HL : Sl (∀ W : World, Calls Tryz.prog 167 #[.int .u8 (s[k].toNat : Int)] W fun e w' => e = .returned (.bool (letC s[k])) ∧ w' = W) := ⟨fun W => r1let_c s[k] W⟩; have HD : Sl (∀ W : World, Calls Tryz.prog 168 #[.int .u8 (s[k].toNat : Int)] W fun e w' => e = .returned (.bool (decide (48 ≤ s[k].toNat) && decide (s[k].toNat ≤ 57))) ∧ w' = W) := ⟨fun W => r1dig_c s[k] W⟩; have hb8 : (s[k].toNat : Int) < 256 := (by have := s[k].toNat_lt; omega); have HOK : Sl (okC k s[k] = (letC s[k] || (decide (k ≠ 0) && (decide (s[k].toNat = 95) || (decide (48 ≤ s[k].toNat) && decide (s[k].toNat ≤ 57)))))) := ⟨rfl⟩
      have HNX : Sl (okC k s[k] = true → ∀ i, (h : i < s.size) → i < k + 1 → okC i s[i] = true) := ⟨fun h i hi h2 => by
        rcases Nat.lt_or_ge i k with g | g
        · exact HV.out i hi g
        · obtain rfl : i = k := (by omega)
          exact h⟩
      have HNF : Sl (okC k s[k] = false → nameC s = false) := ⟨fun h => nameC_false hlt h⟩; have HK0 : Sl (letC s[k] = false → k ≠ 0) := ⟨fun h h2 => by subst h2; rw [HLT.out] at h; cases h⟩; clear HV; generalize hL : letC s[k] = L at *
      generalize (decide (48 ≤ s[k].toNat) && decide (s[k].toNat ≤ 57)) = D at *
      clear hL; go_wp2_with fail; refine (HL.out _).mono ?_; rintro e w2 ⟨rfl, rfl⟩
      cases L
      · have h0 := HK0.out rfl; clear HK0
        cases D
        · by_cases h5 : s[k].toNat = 95
          · have hT := HNX.out (by rw [HOK.out, decide_eq_true h0, decide_eq_true h5]; rfl); have HT : Sl _ := ⟨hT⟩; have h95 : ((s[k].toNat : Int) != 95) = false := (by rw [bne_eq_false_iff_eq]; omega); clear hT HNF HNX HOK h5; go_wp2_with fail; refine (HD.out _).mono ?_; rintro e w3 ⟨rfl, rfl⟩; go_wp2_with fail; exact ⟨⟨k + 1, hlt, by go_num, HT, hB⟩, by simp [RowKit.intOf]; try omega⟩
          · have h95 : ((s[k].toNat : Int) != 95) = true := (by rw [bne_iff_ne]; omega); have HF := HNF.out (by rw [HOK.out, decide_eq_false h5, Bool.or_false, Bool.and_false]; rfl); have HFS : Sl _ := ⟨HF⟩; clear HF HNF HNX HOK h5; go_wp2_with fail; refine (HD.out _).mono ?_; rintro e w3 ⟨rfl, rfl⟩; go_wp2_with fail; go_ret; rw [HFS.out]; exact ⟨rfl, hB⟩
        · have hT := HNX.out (by rw [HOK.out, decide_eq_true h0, Bool.or_true]; rfl); have HT : Sl _ := ⟨hT⟩; clear hT HNF HNX HOK; go_wp2_with fail; refine (HD.out _).mono ?_; rintro e w3 ⟨rfl, rfl⟩; go_wp2_with fail; exact ⟨⟨k + 1, hlt, by go_num, HT, hB⟩, by simp [RowKit.intOf]; try omega⟩
      · have hT := HNX.out (by rw [HOK.out]; rfl); have HT : Sl _ := ⟨hT⟩; clear hT HNF HNX HOK HK0; go_wp2_with fail; exact ⟨⟨k + 1, hlt, by go_num, HT, hB⟩, by simp [RowKit.intOf]; try omega⟩
    · have hke : k = s.size := (by omega); have HF : Sl (nameC s = true) := ⟨nameC_true ⟨by omega, by omega⟩ fun i hi => HV.out i hi (by omega)⟩; clear HV; go_wp2_with fail; go_ret; rw [HF.out]; exact ⟨rfl, hB⟩
theorem letC_ltrI (b : UInt8) : letC b = ltrI (b.toNat : Int) := by
  have : ∀ n : Nat, n < 256 → ((decide (65 ≤ n) && decide (n ≤ 90)) || (decide (97 ≤ n) && decide (n ≤ 122))) = ltrI (n : Int) := (by decide +kernel); exact this b.toNat b.toNat_lt
theorem okC_nmC (i : Nat) (b : UInt8) : okC i b = nmC i (b.toNat : Int) := by
  have hd : (decide (48 ≤ b.toNat) && decide (b.toNat ≤ 57)) = digI (b.toNat : Int) := by
    have : ∀ n : Nat, n < 256 → (decide (48 ≤ n) && decide (n ≤ 57)) = digI (n : Int) := (by decide +kernel); exact this b.toNat b.toNat_lt
  have h5 : decide (b.toNat = 95) = decide ((b.toNat : Int) = 95) := decide_eq_decide.2 (by omega); unfold okC nmC; rw [letC_ltrI, hd, h5]; simp
theorem nameC_nmB (s : ByteArray) : nameC s = nmB s := by
  by_cases h : ∀ i, (h : i < s.size) → okC i s[i] = true
  · rw [nm_end fun k hk => by rw [← okC_nmC]; exact h k hk]; unfold nameC; rw [← Bool.decide_and]; exact decide_eq_decide.2 ⟨fun h1 => h1.1, fun h1 => ⟨h1, h⟩⟩
  · have h2 : ∃ i, ∃ h : i < s.size, okC i s[i] = false := by
      refine Classical.byContradiction fun hn => h fun i hi => ?_
      cases hc : okC i s[i] with
      | true => rfl
      | false => exact absurd ⟨i, hi, hc⟩ hn
    obtain ⟨i, hi, hc⟩ := h2; rw [nameC_false hi hc, nm_bad hi (by rw [← okC_nmC]; exact hc)]
theorem rname_any (s : ByteArray) (w : World) (hs : s.size ≤ maxLen) : Calls Tryz.prog 126 #[.string s] w fun e w' => e = .returned (.bool (nmB s)) ∧ Below w.heap.size w w' := by
  rw [← nameC_nmB]; exact r1nam_c s w hs
end Go.Proofs.YtbaojmfkjpnfhaaGreatDoor
namespace Go.Proofs.YtbaojmfkjpnfhaaGreatDoor
set_option linter.unusedSimpArgs false
open Go.RowKit
set_option linter.unusedVariables false
def KK (k nm : ByteArray) : List UInt8 := (keyN k nm).data.toList
theorem KK_eq (k nm : ByteArray) : KK k nm = k.data.toList ++ 32 :: nm.data.toList := by
  unfold KK keyN; simp
theorem KK_inj {k a b : ByteArray} (h : KK k a = KK k b) : a = b := by
  rw [KK_eq, KK_eq] at h; have h1 := List.append_cancel_left h; injection h1 with _ h2
  exact ByteArray.ext (Array.toList_inj.1 h2)
theorem split32 {a a' b b' : List UInt8} (ha : ∀ x ∈ a, x ≠ 32) (ha' : ∀ x ∈ a', x ≠ 32) (h : a ++ 32 :: b = a' ++ 32 :: b') : a = a' ∧ b = b' := by
  induction a generalizing a' with
  | nil =>
    cases a' with
    | nil => injection h with _ h2; exact ⟨rfl, h2⟩
    | cons y a' => injection h with h1 _; exact absurd h1.symm (ha' y List.mem_cons_self)
  | cons x a ih =>
    cases a' with
    | nil => injection h with h1 _; exact absurd h1 (ha x List.mem_cons_self)
    | cons y a' =>
      injection h with h1 h2
      obtain ⟨r1, r2⟩ := ih (fun z hz => ha z (List.mem_cons_of_mem _ hz)) (fun z hz => ha' z (List.mem_cons_of_mem _ hz)) h2; exact ⟨by rw [h1, r1], r2⟩
theorem runE_fst {α : Type} {f : Keys → α → Int} {g : Keys → α → Keys} {R : Nat → Int} {I : Nat → Keys → Prop} {L : List α} (hs : ∀ i x l, L[i]? = some x → I i l → f l x = R i ∧ (R i = 0 → I (i + 1) (g l x))) :
    ∀ (n i : Nat) (l : Keys), L.length = i + n → I i l → (runE f g (L.drop i) l).1 = fstE R n i ∧ (fstE R n i = 0 → I (i + n) (runE f g (L.drop i) l).2)
  | 0, i, l, hn, hI => by
    rw [List.drop_eq_nil_of_le (by omega)]; exact ⟨rfl, fun _ => hI⟩
  | n+1, i, l, hn, hI => by
    have hi : i < L.length := (by omega); rw [List.drop_eq_getElem_cons hi, runE, fstE]; obtain ⟨h1, h2⟩ := hs i L[i] l (List.getElem?_eq_getElem hi) hI; rw [h1]
    by_cases h0 : R i = 0
    · rw [if_pos h0, if_pos h0, show i + (n + 1) = i + 1 + n by omega]; exact runE_fst hs n (i + 1) _ (by omega) (h2 h0)
    · rw [if_neg h0, if_neg h0]; exact ⟨rfl, fun h => absurd h h0⟩
def KInv {α : Type} (B : List UInt8 → Prop) (K : α → List UInt8) (L : List α) (i : Nat) (l : Keys) : Prop := ∀ key, key ∈ l ↔ B key ∨ ∃ y ∈ L.take i, key = K y
theorem KInv.step {α : Type} {B : List UInt8 → Prop} {K : α → List UInt8} {L : List α} {i : Nat} {l : Keys} {x : α} (h : KInv B K L i l) (hx : L[i]? = some x) : KInv B K L (i + 1) (K x :: l) := fun key => by
  rw [List.mem_cons, h key, List.take_add_one, hx]; constructor
  · rintro (rfl | h1 | ⟨y, hy, rfl⟩)
    · exact .inr ⟨x, by simp, rfl⟩
    · exact .inl h1
    · exact .inr ⟨y, by simp [hy], rfl⟩
  · rintro (h1 | ⟨y, hy, rfl⟩)
    · exact .inr (.inl h1)
    · rcases List.mem_append.1 hy with hy | hy
      · exact .inr (.inr ⟨y, hy, rfl⟩)
      · have : y = x := (by simpa using hy); rw [this]; exact .inl rfl
theorem KInv.mem {α : Type} {B : List UInt8 → Prop} {K : α → List UInt8} {L : List α} {i : Nat} {l : Keys} (h : KInv B K L i l) {key : List UInt8} (hB : ¬ B key) : key ∈ l ↔ ∃ y ∈ L.take i, K y = key := by
  rw [h key]; constructor
  · rintro (h1 | ⟨y, hy, e⟩)
    · exact absurd h1 hB
    · exact ⟨y, hy, e.symm⟩
  · rintro ⟨y, hy, e⟩; exact .inr ⟨y, hy, e.symm⟩
theorem KInv.next {α β : Type} {B : List UInt8 → Prop} {K : α → List UInt8} {L : List α} {l : Keys} {n : Nat} (h : KInv B K L n l) (hn : L.length ≤ n) (K2 : β → List UInt8) (M : List β) : KInv (fun key => B key ∨ ∃ y ∈ L, key = K y) K2 M 0 l := fun key => by
  rw [h key, List.take_of_length_le hn, List.take_zero]; constructor
  · exact fun h => .inl h
  · rintro (h1 | ⟨y, hy, _⟩)
    · exact h1
    · cases hy
def twB {α : Type} (p : α → Bool) (L : List α) (i : Nat) : Bool := (L.take i).any p
theorem twB_iff {α : Type} {p : α → Bool} {L : List α} {i : Nat} : twB p L i = true ↔ ∃ y ∈ L.take i, p y = true := List.any_eq_true
theorem twB_succ {α : Type} {p : α → Bool} {L : List α} {i : Nat} {x : α} (hx : L[i]? = some x) : twB p L (i + 1) = (twB p L i || p x) := by
  unfold twB; rw [List.take_add_one, hx, List.any_append]; simp
def rdvE (o : SpO) (i : Nat) : Int :=
  let x := o.ds[i]?.getD dv0
  if nmB x.nm = true then (if twB (fun y => decide (y.nm = x.nm)) o.ds i = true then 8 else if wiB x.lo 0 127 && wiB x.hi x.lo (min 127 (x.lo + 60)) then 0 else 7) else 6
def rrkE (o : SpO) (i : Nat) : Int :=
  let x := o.rs[i]?.getD rn0
  if nmB x.nm = true then (if twB (fun y => decide (y.nm = x.nm)) o.rs i = true then 8 else if wiB x.kd 1 4 && decide (vF x.fn x.fd) then (if wiB x.ct 1 97 && wiB x.lo 0 (128 - x.ct) then 0 else 7) else 2) else 6
def st0 : SpV := ⟨⟨#[]⟩, 0, 0, 0, none, 0, 0, []⟩
def cp0 : CpV := ⟨⟨#[]⟩, 0, 0, 0, 0, false⟩
def rstE (o : SpO) (i : Nat) : Int :=
  let x := o.ss[i]?.getD st0
  if nmB x.nm = false then 6 else if wiB x.dv 0 ((o.n1 : Int) - 1) = false then 4
  else if twB (fun y => decide (y.dv = x.dv) && decide (y.nm = x.nm)) o.ss i = true then 8 else if decide (vF x.fn x.fd) = false ∨ x.n = 0 then 2 else if 12 < x.n then 3 else 0
def pr0 : PrV := ⟨0, 0, 0, 0⟩
def rsaE (o : SpO) (i : Nat) : Int :=
  let x := o.ss[i]?.getD st0
  if rstE o i = 0 then fstE (fun k => prtE o.rs (o.ds[x.dv.toNat]?.getD dv0) (x.ps[k]?.getD pr0)) x.ps.length 0 else rstE o i
def rcpE (o : SpO) (i : Nat) : Int :=
  let x := o.cs[i]?.getD cp0
  if nmB x.nm = true then (if twB (fun y => decide (y.nm = x.nm)) o.cs i = true then 8 else if wiB x.fr 0 ((o.n1 : Int) - 1) && wiB x.tt 0 ((o.n1 : Int) - 1) then
    (if ((x.sh == -12) || ((x.sh == 12) || ((x.sh == 0) && (x.fr != x.tt)))) && (wiB x.on 0 2 && !(x.th && (x.on != 0))) then 0 else 2) else 4) else 6
def refE (o : SpO) : Int :=
  if 6 < o.n1 ∨ 40 < o.n2 ∨ 80 < o.n3 ∨ 24 < o.n4 then 3
  else if fstE (rdvE o) o.n1 0 = 0 then (if fstE (rrkE o) o.n2 0 = 0 then (if fstE (rsaE o) o.n3 0 = 0 then fstE (rcpE o) o.n4 0 else fstE (rsaE o) o.n3 0) else fstE (rrkE o) o.n2 0) else fstE (rdvE o) o.n1 0
theorem nmd_eq {α : Type} {B : List UInt8 → Prop} {K : α → List UInt8} {L : List α} {i : Nat} {l : Keys} (h : KInv B K L i l) {k nm : ByteArray} (hB : ¬ B (KK k nm)) {p : α → Bool} (hp : nmB nm = true → ∀ y ∈ L.take i, K y = KK k nm ↔ p y = true) :
    nmdE l k nm = (if nmB nm = true then (if twB p L i = true then 8 else 0) else 6) := by
  unfold nmdE
  by_cases hn : nmB nm = true
  · rw [if_pos hn, if_pos hn]
    have : (keyN k nm).data.toList ∈ l ↔ twB p L i = true := by
      rw [twB_iff]; refine (h.mem (key := KK k nm) hB).trans ⟨?_, ?_⟩
      · rintro ⟨y, hy, e⟩; exact ⟨y, hy, (hp hn y hy).1 e⟩
      · rintro ⟨y, hy, e⟩; exact ⟨y, hy, (hp hn y hy).2 e⟩
    by_cases hm : twB p L i = true
    · rw [if_pos hm, if_pos (this.2 hm)]
    · rw [if_neg hm, if_neg (fun hh => hm (this.1 hh))]
  · rw [if_neg hn, if_neg hn]
theorem nmd_next {α : Type} {B : List UInt8 → Prop} {K : α → List UInt8} {L : List α} {i : Nat} {l : Keys} (h : KInv B K L i l) {k nm : ByteArray} {x : α} (hx : L[i]? = some x) (hK : K x = KK k nm) (h0 : nmdE l k nm = 0) : KInv B K L (i + 1) (nmdL l k nm) := by
  unfold nmdE at h0
  have hn : nmB nm = true := by
    by_cases hn : nmB nm = true
    · exact hn
    · rw [if_neg hn] at h0; cases h0
  rw [if_pos hn] at h0; have hm : (keyN k nm).data.toList ∉ l := fun hm => by rw [if_pos hm] at h0; cases h0
  unfold nmdL; rw [if_pos ⟨hn, hm⟩]; have := h.step hx
  rwa [hK] at this
theorem dec1 {n : Nat} (h : n < 10) : Lib.decDigits n = [UInt8.ofNat (48 + n)] := by rw [Lib.decDigits, dif_pos h]
theorem dig_no32 {n : Nat} (h : n < 10) : ∀ x ∈ Lib.decDigits n, x ≠ 32 := by
  rw [dec1 h]; intro x hx; have : x = UInt8.ofNat (48 + n) := (by simpa using hx); subst this; have : ∀ n : Nat, n < 10 → UInt8.ofNat (48 + n) ≠ 32 := (by decide); exact this n h
theorem dec_inj {n m : Nat} (h : n < 10) (h' : m < 10) (e : Lib.decDigits n = Lib.decDigits m) : n = m := by
  rw [dec1 h, dec1 h'] at e; injection e with e _
  have : ∀ n : Nat, n < 10 → ∀ m : Nat, m < 10 → UInt8.ofNat (48 + n) = UInt8.ofNat (48 + m) → n = m := (by decide); exact this n h m h' e
theorem kSt_eq (d : Int) : (kSt d).data.toList = [115, 116, 111, 112, 32] ++ Lib.decDigits d.toNat := by
  unfold kSt; simp
theorem KSt_inj {d d' : Int} {a b : ByteArray} (ha : nmB a = true) (hb : nmB b = true) (hd : 0 ≤ d ∧ d < 10) (hd' : 0 ≤ d' ∧ d' < 10) (h : KK (kSt d) a = KK (kSt d') b) : d = d' ∧ a = b := by
  rw [KK_eq, KK_eq, kSt_eq, kSt_eq, List.append_assoc, List.append_assoc] at h; obtain ⟨h1, h2⟩ := split32 (dig_no32 (by omega)) (dig_no32 (by omega)) (List.append_cancel_left h); have := dec_inj (by omega) (by omega) h1; exact ⟨by omega, ByteArray.ext (Array.toList_inj.1 h2)⟩
theorem KK_ne {k k' a b : ByteArray} (h : k.data.toList.head? ≠ k'.data.toList.head?) (h1 : k.data.toList ≠ []) (h2 : k'.data.toList ≠ []) : KK k a ≠ KK k' b := fun e => by
  rw [KK_eq, KK_eq] at e; have := congrArg List.head? e; obtain ⟨x, l, hx⟩ := List.exists_cons_of_ne_nil h1; obtain ⟨y, m, hy⟩ := List.exists_cons_of_ne_nil h2; rw [hx, hy] at this h; exact h this
theorem KSt_ne {k a b : ByteArray} (d : Int) (h : k.data.toList.head? ≠ some 115) (h1 : k.data.toList ≠ []) : KK k a ≠ KK (kSt d) b :=
  KK_ne (by rw [kSt_eq]; exact h) h1 (by rw [kSt_eq]; simp)
theorem wi_iff {a b c : Int} : wiB a b c = true ↔ b ≤ a ∧ a ≤ c := by
  unfold wiB; simp
def BD0 : List UInt8 → Prop := fun _ => False
def KD (y : DvV) : List UInt8 := KK kDv y.nm
def KR (y : RnV) : List UInt8 := KK kRn y.nm
def KS (y : SpV) : List UInt8 := KK (kSt y.dv) y.nm
def KC (y : CpV) : List UInt8 := KK kCp y.nm
def BR (o : SpO) : List UInt8 → Prop := fun key => BD0 key ∨ ∃ y ∈ o.ds, key = KD y
def BS (o : SpO) : List UInt8 → Prop := fun key => BR o key ∨ ∃ y ∈ o.rs, key = KR y
def BC (o : SpO) : List UInt8 → Prop := fun key => BS o key ∨ ∃ y ∈ o.ss, key = KS y
theorem BR_rn (o : SpO) (a : ByteArray) : ¬ BR o (KK kRn a) := by
  rintro (h | ⟨y, _, h⟩)
  · exact h
  · exact KK_ne (by decide) (by decide) (by decide) h
theorem BS_st (o : SpO) (d : Int) (a : ByteArray) : ¬ BS o (KK (kSt d) a) := by
  rintro ((h | ⟨y, _, h⟩) | ⟨y, _, h⟩)
  · exact h
  · exact KSt_ne d (by decide) (by decide) h.symm
  · exact KSt_ne d (by decide) (by decide) h.symm
theorem BC_cp (o : SpO) (a : ByteArray) : ¬ BC o (KK kCp a) := by
  rintro (((h | ⟨y, _, h⟩) | ⟨y, _, h⟩) | ⟨y, _, h⟩)
  · exact h
  · exact KK_ne (by decide) (by decide) (by decide) h
  · exact KK_ne (by decide) (by decide) (by decide) h
  · exact KSt_ne y.dv (by decide) (by decide) h
theorem ds_run (o : SpO) (h1 : o.ds.length = o.n1) : (runE divE divL o.ds []).1 = fstE (rdvE o) o.n1 0 ∧ (fstE (rdvE o) o.n1 0 = 0 → KInv (BR o) KR o.rs 0 (runE divE divL o.ds []).2) := by
  have hh := runE_fst (f := divE) (g := divL) (R := rdvE o) (I := fun i l => KInv BD0 KD o.ds i l) (L := o.ds) (fun i x l hx hI => by
    have hR : rdvE o i = if nmB x.nm = true then (if twB (fun y => decide (y.nm = x.nm)) o.ds i = true then 8 else if wiB x.lo 0 127 && wiB x.hi x.lo (min 127 (x.lo + 60)) then 0 else 7) else 6 := (by unfold rdvE; rw [hx]; rfl)
    have hE : divE l x = if nmdE l kDv x.nm = 0 then (if wiB x.lo 0 127 && wiB x.hi x.lo (min 127 (x.lo + 60)) then 0 else 7) else nmdE l kDv x.nm := rfl
    have hN := nmd_eq hI (k := kDv) (nm := x.nm) (fun h => h) (p := fun y => decide (y.nm = x.nm)) (fun _ y _ => by
      rw [decide_eq_true_iff]
      exact ⟨fun h => KK_inj h, fun h => by unfold KD; rw [h]⟩)
    have hEq : divE l x = rdvE o i := by
      rw [hE, hR, hN]
      by_cases a1 : nmB x.nm = true
      · rw [if_pos a1]
        by_cases a2 : twB (fun y => decide (y.nm = x.nm)) o.ds i = true
        · rw [if_pos a2, if_pos a1, if_pos a2]; rfl
        · rw [if_neg a2, if_pos a1, if_neg a2]; rfl
      · rw [if_neg a1, if_neg a1]; rfl
    refine ⟨hEq, fun h0 => nmd_next hI hx rfl ?_⟩; rw [← hEq, hE] at h0
    by_cases a3 : nmdE l kDv x.nm = 0
    · exact a3
    · rw [if_neg a3] at h0; exact h0) o.n1 0 [] (by omega) (fun key => by simp [BD0])
  rw [List.drop_zero, Nat.zero_add] at hh; exact ⟨hh.1, fun h0 => (hh.2 h0).next (by omega) KR o.rs⟩
theorem rs_run (o : SpO) (h2 : o.rs.length = o.n2) {l : Keys} (hl : KInv (BR o) KR o.rs 0 l) : (runE rnkE rnkL o.rs l).1 = fstE (rrkE o) o.n2 0 ∧ (fstE (rrkE o) o.n2 0 = 0 → KInv (BS o) KS o.ss 0 (runE rnkE rnkL o.rs l).2) := by
  have hh := runE_fst (f := rnkE) (g := rnkL) (R := rrkE o) (I := fun i l => KInv (BR o) KR o.rs i l) (L := o.rs) (fun i x l hx hI => by
    have hR : rrkE o i = if nmB x.nm = true then (if twB (fun y => decide (y.nm = x.nm)) o.rs i = true then 8 else if wiB x.kd 1 4 && decide (vF x.fn x.fd) then (if wiB x.ct 1 97 && wiB x.lo 0 (128 - x.ct) then 0 else 7) else 2) else 6 := (by unfold rrkE; rw [hx]; rfl)
    have hE : rnkE l x = if nmdE l kRn x.nm = 0 then (if wiB x.kd 1 4 && decide (vF x.fn x.fd) then (if wiB x.ct 1 97 && wiB x.lo 0 (128 - x.ct) then 0 else 7) else 2) else nmdE l kRn x.nm := rfl
    have hN := nmd_eq hI (k := kRn) (nm := x.nm) (BR_rn o _) (p := fun y => decide (y.nm = x.nm)) (fun _ y _ => by
      rw [decide_eq_true_iff]
      exact ⟨fun h => KK_inj h, fun h => by unfold KR; rw [h]⟩)
    have hEq : rnkE l x = rrkE o i := by
      rw [hE, hR, hN]
      by_cases a1 : nmB x.nm = true
      · rw [if_pos a1]
        by_cases a2 : twB (fun y => decide (y.nm = x.nm)) o.rs i = true
        · rw [if_pos a2, if_pos a1, if_pos a2]; rfl
        · rw [if_neg a2, if_pos a1, if_neg a2]; rfl
      · rw [if_neg a1, if_neg a1]; rfl
    refine ⟨hEq, fun h0 => nmd_next hI hx rfl ?_⟩; rw [← hEq, hE] at h0
    by_cases a3 : nmdE l kRn x.nm = 0
    · exact a3
    · rw [if_neg a3] at h0; exact h0) o.n2 0 l (by omega) hl
  rw [List.drop_zero, Nat.zero_add] at hh; exact ⟨hh.1, fun h0 => (hh.2 h0).next (by omega) KS o.ss⟩
theorem parts_run (rs : List RnV) (d : DvV) (ps : List PrV) (l : Keys) : (runE (fun _ p => prtE rs d p) (fun l _ => l) ps l).1 = fstE (fun k => prtE rs d (ps[k]?.getD pr0)) ps.length 0 := by
  have hh := runE_fst (f := fun (_ : Keys) p => prtE rs d p) (g := fun l _ => l) (R := fun k => prtE rs d (ps[k]?.getD pr0)) (I := fun _ _ => True) (L := ps) (fun i x l hx _ => ⟨by rw [hx]; rfl, fun _ => trivial⟩) ps.length 0 l (by omega) trivial; rw [List.drop_zero] at hh; exact hh.1
def stV1 (o : SpO) (y : SpV) : Prop := nmB y.nm = true ∧ wiB y.dv 0 ((o.n1 : Int) - 1) = true
theorem ss_run (o : SpO) (h1 : o.n1 ≤ 6) (h3 : o.ss.length = o.n3) {l : Keys} (hl : KInv (BS o) KS o.ss 0 l) : (runE (stpsE o) (stpL o.n1) o.ss l).1 = fstE (rsaE o) o.n3 0 ∧ (fstE (rsaE o) o.n3 0 = 0 → KInv (BC o) KC o.cs 0 (runE (stpsE o) (stpL o.n1) o.ss l).2) := by
  have hh := runE_fst (f := stpsE o) (g := stpL o.n1) (R := rsaE o) (I := fun i l => KInv (BS o) KS o.ss i l ∧ ∀ y ∈ o.ss.take i, stV1 o y) (L := o.ss) (fun i x l hx hI => by
    obtain ⟨hI, hV⟩ := hI; have hR : rstE o i = if nmB x.nm = false then 6 else if wiB x.dv 0 ((o.n1 : Int) - 1) = false then 4 else if twB (fun y => decide (y.dv = x.dv) && decide (y.nm = x.nm)) o.ss i = true then 8 else if decide (vF x.fn x.fd) = false ∨ x.n = 0 then 2 else if 12 < x.n then 3 else 0 := (by unfold rstE; rw [hx]; rfl)
    have hRA : rsaE o i = if rstE o i = 0 then fstE (fun k => prtE o.rs (o.ds[x.dv.toNat]?.getD dv0) (x.ps[k]?.getD pr0)) x.ps.length 0 else rstE o i := (by unfold rsaE; rw [hx]; rfl)
    have hE : stpE o.n1 l x = if nmB x.nm = false then 6 else if wiB x.dv 0 ((o.n1 : Int) - 1) = false then 4 else if nmdE l (kSt x.dv) x.nm = 0 then (if decide (vF x.fn x.fd) = false ∨ x.n = 0 then 2 else if 12 < x.n then 3 else 0) else nmdE l (kSt x.dv) x.nm := rfl
    have hEA : stpsE o l x = if stpE o.n1 l x = 0 then (runE (fun _ p => prtE o.rs (o.ds[x.dv.toNat]?.getD dv0) p) (fun l _ => l) x.ps l).1 else stpE o.n1 l x := rfl
    have hL : stpL o.n1 l x = if nmB x.nm = false then l else if wiB x.dv 0 ((o.n1 : Int) - 1) = false then l else nmdL l (kSt x.dv) x.nm := rfl
    have hEq : stpE o.n1 l x = rstE o i := by
      rw [hE, hR]
      by_cases a0 : nmB x.nm = false
      · rw [if_pos a0, if_pos a0]
      have a0' : nmB x.nm = true := (by simpa using a0); rw [if_neg a0, if_neg a0]
      by_cases b0 : wiB x.dv 0 ((o.n1 : Int) - 1) = false
      · rw [if_pos b0, if_pos b0]
      have b0' : wiB x.dv 0 ((o.n1 : Int) - 1) = true := (by simpa using b0); rw [if_neg b0, if_neg b0]
      have hN := nmd_eq hI (k := kSt x.dv) (nm := x.nm) (BS_st o _ _) (p := fun y => decide (y.dv = x.dv) && decide (y.nm = x.nm)) (fun _ y hy => by
        rw [Bool.and_eq_true, decide_eq_true_iff, decide_eq_true_iff]; obtain ⟨v1, v2⟩ := hV y hy; have w1 := wi_iff.1 v2; have w2 := wi_iff.1 b0'
        exact ⟨fun h => KSt_inj v1 a0' (by omega) (by omega) h, fun h => by unfold KS; rw [h.1, h.2]⟩)
      rw [hN, if_pos a0']
      by_cases a2 : twB (fun y => decide (y.dv = x.dv) && decide (y.nm = x.nm)) o.ss i = true
      · rw [if_pos a2, if_pos a2]; rfl
      · rw [if_neg a2, if_neg a2]; rfl
    have hEqA : stpsE o l x = rsaE o i := (by rw [hEA, hRA, hEq, parts_run]); refine ⟨hEqA, fun h0 => ?_⟩; rw [hRA] at h0
    have h0 : stpE o.n1 l x = 0 := by
      rw [hEq]
      by_cases a3 : rstE o i = 0
      · exact a3
      · rw [if_neg a3] at h0; exact absurd h0 a3
    rw [hE] at h0
    by_cases a0 : nmB x.nm = false
    · rw [if_pos a0] at h0; cases h0
    rw [if_neg a0] at h0
    by_cases b0 : wiB x.dv 0 ((o.n1 : Int) - 1) = false
    · rw [if_pos b0] at h0; cases h0
    rw [if_neg b0] at h0
    have h00 : nmdE l (kSt x.dv) x.nm = 0 := by
      by_cases a3 : nmdE l (kSt x.dv) x.nm = 0
      · exact a3
      · rw [if_neg a3] at h0; exact absurd h0 a3
    rw [hL, if_neg a0, if_neg b0]; refine ⟨nmd_next hI hx rfl h00, fun y hy => ?_⟩; rw [List.take_add_one, hx] at hy; rcases List.mem_append.1 hy with hy | hy
    · exact hV y hy
    · have : y = x := (by simpa using hy); rw [this]
      exact ⟨by simpa using a0, by simpa using b0⟩) o.n3 0 l (by omega) ⟨hl, fun y hy => by rw [List.take_zero] at hy; cases hy⟩
  rw [List.drop_zero, Nat.zero_add] at hh; exact ⟨hh.1, fun h0 => (hh.2 h0).1.next (by omega) KC o.cs⟩
theorem cs_run (o : SpO) (h4 : o.cs.length = o.n4) {l : Keys} (hl : KInv (BC o) KC o.cs 0 l) : (runE (cplE o.n1) cplL o.cs l).1 = fstE (rcpE o) o.n4 0 := by
  have hh := runE_fst (f := cplE o.n1) (g := cplL) (R := rcpE o) (I := fun i l => KInv (BC o) KC o.cs i l) (L := o.cs) (fun i x l hx hI => by
    have hN := nmd_eq hI (k := kCp) (nm := x.nm) (BC_cp o _) (p := fun y => decide (y.nm = x.nm)) (fun _ y _ => by
      rw [decide_eq_true_iff]
      exact ⟨fun h => KK_inj h, fun h => by unfold KC; rw [h]⟩)
    obtain ⟨T, hT⟩ : ∃ T : Int, (if wiB x.fr 0 ((o.n1 : Int) - 1) && wiB x.tt 0 ((o.n1 : Int) - 1) then
      (if ((x.sh == -12) || ((x.sh == 12) || ((x.sh == 0) && (x.fr != x.tt)))) && (wiB x.on 0 2 && !(x.th && (x.on != 0))) then (0 : Int) else 2) else 4) = T := ⟨_, rfl⟩
    have hR : rcpE o i = if nmB x.nm = true then (if twB (fun y => decide (y.nm = x.nm)) o.cs i = true then 8 else T) else 6 := (by unfold rcpE; rw [hx, ← hT]; rfl)
    have hE : cplE o.n1 l x = if nmdE l kCp x.nm = 0 then T else nmdE l kCp x.nm := (by rw [← hT]; rfl)
    have hEq : cplE o.n1 l x = rcpE o i := by
      rw [hE, hR, hN]
      by_cases a1 : nmB x.nm = true
      · rw [if_pos a1]
        by_cases a2 : twB (fun y => decide (y.nm = x.nm)) o.cs i = true
        · rw [if_pos a2, if_pos a1, if_pos a2]; rfl
        · rw [if_neg a2, if_pos a1, if_neg a2]; rfl
      · rw [if_neg a1, if_neg a1]; rfl
    refine ⟨hEq, fun h0 => nmd_next hI hx rfl ?_⟩; rw [← hEq, hE] at h0
    by_cases a3 : nmdE l kCp x.nm = 0
    · exact a3
    · rw [if_neg a3] at h0; exact absurd h0 a3) o.n4 0 l (by omega) hl
  rw [List.drop_zero] at hh; exact hh.1
theorem refE_specE (o : SpO) (h1 : o.ds.length = o.n1) (h2 : o.rs.length = o.n2) (h3 : o.ss.length = o.n3) (h4 : o.cs.length = o.n4) : refE o = specE o := by
  unfold refE specE
  by_cases hb : 6 < o.n1 ∨ 40 < o.n2 ∨ 80 < o.n3 ∨ 24 < o.n4
  · rw [if_pos hb, if_pos hb]
  rw [if_neg hb, if_neg hb]; obtain ⟨a1, a2⟩ := ds_run o h1; simp only []; rw [a1]
  by_cases c1 : fstE (rdvE o) o.n1 0 = 0
  · rw [if_pos c1, if_pos c1]; obtain ⟨b1, b2⟩ := rs_run o h2 (a2 c1); rw [b1]
    by_cases c2 : fstE (rrkE o) o.n2 0 = 0
    · rw [if_pos c2, if_pos c2]; obtain ⟨d1, d2⟩ := ss_run o (by omega) h3 (b2 c2); rw [d1]
      by_cases c3 : fstE (rsaE o) o.n3 0 = 0
      · rw [if_pos c3, if_pos c3, cs_run o h4 (d2 c3)]
      · rw [if_neg c3, if_neg c3]
    · rw [if_neg c2, if_neg c2]
  · rw [if_neg c1, if_neg c1]
end Go.Proofs.YtbaojmfkjpnfhaaGreatDoor
namespace Go.Proofs.YtbaojmfkjpnfhaaGreatDoor
set_option linter.unusedSimpArgs false
open Go.RowKit
set_option linter.unusedVariables false
theorem wp_of_runc {P : Program} {op : Oper} {a : Act} {w : World} {K : Act → World → Prop} {Q : Exit → Act → World → Prop} (v : Value) (w' : World) (h : (execOp a.eval op).run P w = .ok (.value v) w') (hk : K (a.put op.dst v) w') : op.wp P a w K Q := by
  unfold Oper.wp; rw [h, Oper.upon_value]; exact hk
def sv (s : ByteArray) : Value := .string s
def SS (w : World) (A : Option Addr) (n : Nat) (l : List ByteArray) : Prop := l.length = n ∧ Reads w w.heap.size 1 A n (l.map sv)
theorem SS.below {w w' : World} {A : Option Addr} {n : Nat} {l : List ByteArray} (h : SS w A n l) (hb : Below w.heap.size w w') : SS w' A n l := ⟨h.1, (h.2.below hb).more hb.size⟩
theorem SS.cell {w : World} {A : Option Addr} {n : Nat} {l : List ByteArray} (h : SS w A n l) {j : Nat} (hj : j < n) : ∃ ad, A = some ad ∧ ad.block < w.heap.size ∧ w.cell? (ad.add j) = some (.string (l[j]?.getD ⟨#[]⟩)) := by
  obtain ⟨ad, e, hb, hc⟩ := h.2.2 (by omega); have hl := h.1; refine ⟨ad, e, hb, hc _ _ ?_⟩; rw [List.getElem?_map, List.getElem?_eq_getElem (by omega)]; rfl
def OS (w : World) (base : Nat) (A : Option Addr) (n c : Nat) (l : List ByteArray) : Prop := w.ownsRow base 9 1 (.slice A n c) n (l.map sv)
section
variable {w w' : World} {base : Nat} {A : Option Addr} {n c : Nat} {l : List ByteArray}
theorem OS.len (h : OS w base A n c l) : l.length = n := by
  have := h.1; simpa using this
theorem OS.ss (h : OS w base A n c l) : SS w A n l := ⟨h.len, Reads.of_own h⟩
theorem OS.nil (w : World) (base : Nat) : OS w base none 0 0 [] := World.ownsRow_nil _ _ _ _
theorem OS.lt (h : OS w base A n c l) : ∀ k, (Value.slice A n c).ownBlock = some k → base ≤ k ∧ k < w.heap.size := World.ownsRow.lt h
theorem OS.alloc (h : OS w base A n c l) (o : Obj) : OS (w.alloc o) base A n c l := World.ownsRow.alloc h o
theorem OS.below (h : OS w base A n c l) (hb : Below w.heap.size w w') : OS w' base A n c l :=
  own_mv h (Mv.of_below hb) (fun k hk => by have := (World.ownsRow.lt h k hk).2; omega)
theorem OS.mv {g : Nat} (h : OS w base A n c l) (hm : Mv g w w') (hne : ∀ k, (Value.slice A n c).ownBlock = some k → k ≠ g) : OS w' base A n c l := own_mv h hm hne
theorem OS.mono {base' : Nat} (h : OS w base A n c l) (hb : base' ≤ base) : OS w base' A n c l :=
  ⟨h.1, h.2.imp id fun ⟨g, cap, cur, h1, h2, h3⟩ => ⟨g, cap, cur, h1, Nat.le_trans hb h2, h3⟩⟩
theorem OS.grown {row : Option Nat} (h : OS w base A n c l) (hg : w.grownBy w' row) (hne : ∀ k, (Value.slice A n c).ownBlock = some k → row ≠ some k) : OS w' base A n c l := by
  refine World.ownsRow.kept h hg ?_
  cases hb : (Value.slice A n c).ownBlock with
  | none => exact .inl rfl
  | some k => exact .inr (fun e => hne k hb e.symm)
theorem OS.cap (h : OS w base A n c l) : n ≤ c ∧ c ≤ maxLen := by
  rcases h.2 with ⟨h0, _⟩ | ⟨b, cap, cur, e1, _, _, h1, h2, _⟩
  · injection h0 with a b c
    subst b c; exact ⟨Nat.le_refl _, by decide⟩
  · injection e1 with a b c
    subst c; exact ⟨h1, h2⟩
theorem OS.ne_blk {g : Nat} {t : TypeId} {cs : Array Value} (h : OS w base A n c l) (hB : Blk w g t cs) (ht : 9 ≠ t) : (Value.slice A n c).ownBlock ≠ some g := own_blk_ne h hB ht
end
theorem SS.made (w : World) (s : ByteArray) (t : TypeId) : SS (w.alloc (.cells #[.string s] t)) (some ⟨w.heap.size, 0, none⟩) 1 [s] := by
  refine ⟨rfl, rfl, fun _ => ⟨⟨w.heap.size, 0, none⟩, rfl, by simp, fun j u hu => ?_⟩⟩
  have hj : j = 0 := by
    have := (List.getElem?_eq_some_iff.1 hu).1; simp at this; exact this
  subst hj; have : u = .string s := (by simpa [sv] using hu.symm); rw [this]; exact (Blk.new w t #[.string s]).cell 0
theorem infoS : ∃ i, Tryz.prog.info? 9 = some i ∧ i.zero = some (.string ⟨#[]⟩) ∧ i.size = 1 ∧ i.bytes = 16 := by
  have h : (Tryz.prog.info? 9).map (fun i => (i.zero, i.size, i.bytes)) = some (some (.string ⟨#[]⟩), 1, 16) := (by kernel_rfl); obtain ⟨i, hi, he⟩ := Option.map_eq_some_iff.1 h; injection he with e1 e2
  injection e2 with e2 e3
  exact ⟨i, hi, e1, e2, e3⟩
theorem wp_append_os {o : Oper} {a : Act} {w : World} {K : Act → World → Prop} {Q : Exit → Act → World → Prop} (s x : Operand)
    (ho : o.op = .call { callee := .builtin .append, args := #[s, x], argTypes := #[142, 142] })
    (base : Nat) (A : Option Addr) (n c : Nat) (l : List ByteArray) (hs : a.eval s = .slice A n c) (hown : OS w base A n c l)
    (B : Option Addr) (m d : Nat) (k : List ByteArray) (hx : a.eval x = .slice B m d) (hr : SS w B m k) (hnm : n + m ≤ 1000000) (hbase : base ≤ w.heap.size)
    (h : ∀ A' c' w', OS w' base A' (n + m) c' (l ++ k) → w.grownBy w' (Value.slice A n c).ownBlock → ((Value.slice A' (n + m) c').ownBlock = (Value.slice A n c).ownBlock ∨ (Value.slice A' (n + m) c').ownBlock = some w.heap.size) → K (a.put o.dst (.slice A' (n + m) c')) w') :
    o.wp Tryz.prog a w K Q := by
  obtain ⟨i, h1, h2, h3, h4⟩ := infoS; refine wp_append_any w s x _ ho base 9 i _ 1 16 Tryz.underlying142 h1 h2 h3 h4 rfl (by decide) _ n _ hs hown w.heap.size B m d (k.map sv) hx hr.2 (fun u hu => ?_) (by unfold maxLen; omega) (by omega) hbase (fun v' w' h5 h6 h7 => ?_)
  · obtain ⟨z, _, rfl⟩ := List.mem_map.1 hu; rfl
  · rw [← List.map_append] at h5; rcases h5.2 with ⟨rfl, h0⟩ | ⟨g, cap, cur, rfl, _⟩
    · have hn0 : n + m = 0 := h0; have e : Value.slice none 0 0 = Value.slice none (n + m) 0 := (by rw [hn0]); rw [e] at h5 h7 ⊢; exact h _ _ _ h5 h6 h7
    · exact h _ _ _ h5 h6 h7
theorem wpList_append_os {ops : Array Oper} {rest : List Oper} {o : Oper} {a : Act} {w : World} {Q : Exit → Act → World → Prop} (hgd : o.guard = none) (s x : Operand)
    (ho : o.op = .call { callee := .builtin .append, args := #[s, x], argTypes := #[142, 142] })
    (base : Nat) (A : Option Addr) (n c : Nat) (l : List ByteArray) (hs : a.eval s = .slice A n c) (hown : OS w base A n c l)
    (B : Option Addr) (m d : Nat) (k : List ByteArray) (hx : a.eval x = .slice B m d) (hr : SS w B m k) (hnm : n + m ≤ 1000000) (hbase : base ≤ w.heap.size)
    (h : ∀ A' c' w', OS w' base A' (n + m) c' (l ++ k) → w.grownBy w' (Value.slice A n c).ownBlock → ((Value.slice A' (n + m) c').ownBlock = (Value.slice A n c).ownBlock ∨ (Value.slice A' (n + m) c').ownBlock = some w.heap.size) → wpList Tryz.prog ops Q rest (a.put o.dst (.slice A' (n + m) c')) w') :
    wpList Tryz.prog ops Q (o :: rest) a w :=
  wpList_plain hgd fun _ hK => wp_append_os s x ho base A n c l hs hown B m d k hx hr hnm hbase fun A' c' w' h2 h3 h4 => hK _ _ (h A' c' w' h2 h3 h4)
theorem grown_trans {a b c : World} {row : Option Nat} (h : a.grownBy b row) (g : b.grownBy c row) : a.grownBy c row := by
  obtain ⟨h1, h2, h3, h4, h5⟩ := h; obtain ⟨g1, g2, g3, g4, g5⟩ := g; exact ⟨g1.trans h1, g2.trans h2, g3.trans h3, Nat.le_trans h4 g4, fun k hk hne => (g5 k (by omega) hne).trans (h5 k hk hne)⟩
def nmSt (o : SpO) (x : SpV) : ByteArray := x.nm ++ ⟨#[64]⟩ ++ (o.ds[x.dv.toNat]?.getD dv0).nm
def snm (o : SpO) : List ByteArray := o.ss.map (nmSt o)
def cnm (o : SpO) : List ByteArray := o.cs.map fun x => ⟨#[43]⟩ ++ x.nm
theorem nmdE_nm {l : Keys} {k nm : ByteArray} (h : nmdE l k nm = 0) : nmB nm = true := by
  unfold nmdE at h
  split at h
  · rename_i h1; exact h1
  · cases h
theorem divE_nm {l : Keys} {x : DvV} (h : divE l x = 0) : nmB x.nm = true := by
  unfold divE at h
  split at h
  · rename_i h1; exact nmdE_nm h1
  · rename_i h1; exact absurd h h1
theorem stpE_nm {nd : Nat} {l : Keys} {x : SpV} (h : stpE nd l x = 0) : nmB x.nm = true := by
  unfold stpE at h
  split at h
  · cases h
  · rename_i h1; simpa using h1
theorem cplE_nm {nd : Nat} {l : Keys} {x : CpV} (h : cplE nd l x = 0) : nmB x.nm = true := by
  unfold cplE at h
  split at h
  · rename_i h1; exact nmdE_nm h1
  · rename_i h1; exact absurd h h1
theorem specE_nm {o : SpO} (h : specE o = 0) : (∀ d ∈ o.ds, nmB d.nm = true) ∧ (∀ x ∈ o.ss, nmB x.nm = true ∧ 0 ≤ x.dv ∧ x.dv < (o.n1 : Int)) ∧ (∀ c ∈ o.cs, nmB c.nm = true) := by
  unfold specE at h
  split at h
  · cases h
  · simp only [] at h
    split at h
    · rename_i h1
      split at h
      · rename_i h2
        split at h
        · rename_i h3; refine ⟨fun d hd => ?_, fun x hx => ?_, fun c hc => ?_⟩
          · obtain ⟨l', h'⟩ := runE_all h1 d hd; exact divE_nm h'
          · obtain ⟨l', h'⟩ := runE_all h3 x hx; unfold stpsE at h'
            split at h'
            · rename_i h4; have := stpE_bd h4; exact ⟨stpE_nm h4, this.1⟩
            · rename_i h4; exact absurd h' h4
          · obtain ⟨l', h'⟩ := runE_all h c hc; exact cplE_nm h'
        · rename_i h3; exact absurd h h3
      · rename_i h2; exact absurd h h2
    · rename_i h1; exact absurd h h1
theorem alloc_coup (w : World) : (Instr.alloc 102 true (.tuple #[])).run Tryz.prog w = .ok (.pointer (some ⟨w.heap.size, 0, none⟩)) (w.alloc (.cells #[.string ⟨#[]⟩, .int .i64 0, .int .i64 0, .int .i64 0, .int .i64 0, .bool false] 102)) := by kernel_rfl
set_option maxHeartbeats 6400000 in
set_option maxRecDepth 100000 in
theorem names_any (o : SpO) (w : World) (hM : SpM w o) (hF : SpF o) (hs : specE o = 0) : Calls Tryz.prog 94 #[.agg #[.slice o.A1 o.n1 o.c1, .slice o.A2 o.n2 o.c2, .slice o.A3 o.n3 o.c3, .slice o.A4 o.n4 o.c4]] w fun e w' =>
      (∃ A cA B cB, e = .returned (.tuple #[.slice A o.n3 cA, .slice B o.n4 cB]) ∧ OS w' w.heap.size A o.n3 cA (snm o) ∧ OS w' w.heap.size B o.n4 cB (cnm o)) ∧ Below w.heap.size w w' := by
  have HM : Sl _ := ⟨hM⟩; have HF : Sl _ := ⟨hF⟩; have HNM : Sl _ := ⟨specE_nm hs⟩; have HBD : Sl _ := ⟨specE_bd hs⟩; have HD : Sl (Lg w w []) := ⟨Lg.nil w⟩; clear hM hF hs; go_enter Tryz.func94, Tryz.ntmps94
  go_upto_region 1 with ((with_reducible show wpList _ _ _ _ _ _); first
    | (refine wpList_box_new 1 rfl rfl 27 (.tmp 0) rfl #[.slice o.A1 o.n1 o.c1, .slice o.A2 o.n2 o.c2, .slice o.A3 o.n3 o.c3, .slice o.A4 o.n4 o.c4] rfl (fun _ => by kernel_rfl) ?_; rintro ws gs zg zm zs zb; replace HD : Sl _ := ⟨HD.out.new zg zm zb⟩; clear zg zm zs zb))
  have c2 := (HD.out.at_ 0 rfl).cell 2; simp at c2; have hn3 : (o.n3 : Int) ≤ 80 := (by have := HBD.out; omega); have hn4 : (o.n4 : Int) ≤ 24 := (by have := HBD.out; omega); go_wp2_with fail; clear c2
  go_loopw [2, 11] (fun s2 s11 wv => ∃ (k : Nat) (A : Option Addr) (cA : Nat), k ≤ o.n3 ∧ s2 = .slice A k cA ∧ s11 = .int .i64 k ∧ Sl (Lg w wv [(gs, 27, #[.slice o.A1 o.n1 o.c1, .slice o.A2 o.n2 o.c2, .slice o.A3 o.n3 o.c3, .slice o.A4 o.n4 o.c4])] ∧ OS wv w.heap.size A k cA ((snm o).take k))) (fun _ s11 _ => o.n3 - (RowKit.intOf s11).toNat)
  case atStart => exact ⟨0, none, 0, Nat.zero_le _, rfl, rfl, ⟨HD.out, OS.nil _ _⟩⟩
  case round =>
    clear HD; obtain ⟨k, A, cA, hk, rfl, rfl, HK⟩ := hrel; have HD : Sl _ := ⟨HK.out.1⟩; have HO : Sl _ := ⟨HK.out.2⟩; clear HK
    by_cases hkn : k < o.n3
    · have hkI : decide ((k : Int) < (o.n3 : Int)) = true := decide_eq_true (by omega); have hkI2 : (k : Int) < (o.n3 : Int) := (by omega); obtain ⟨gb, oo, x, hA3, hgb, hx, hra⟩ := (HM.out.s.below HD.out.bl).at_ (by omega) hkn; obtain ⟨hnm, hd0, hd1⟩ := HNM.out.2.1 x (List.mem_of_getElem? hx); obtain ⟨d, hd⟩ := Int.eq_ofNat_of_zero_le hd0; obtain ⟨gb2, oo2, y, hA1, hgb2, hy, hra2⟩ := HM.out.d.at_ (by omega) (i := d) (by omega); have hynm := HNM.out.1 y (List.mem_of_getElem? hy); have hs1 := (nmB_size hnm).2; have hs2 := (nmB_size hynm).2
      have htk : (snm o).take (k + 1) = (snm o).take k ++ [x.nm ++ ⟨#[64]⟩ ++ y.nm] := by
        unfold snm; rw [List.take_add_one, List.getElem?_map, hx]; simp only [Option.map_some, Option.toList_some, nmSt]; rw [hd, Int.toNat_natCast, hy, Option.getD_some]
      have HTK : Sl _ := ⟨htk⟩; have x0 := hra 0 _ rfl; have x1 := hra 1 _ rfl; have x2 := hra 2 _ rfl; have x3 := hra 3 _ rfl; have x4 := hra 4 _ rfl; rw [Nat.add_zero] at x0; rw [hd] at x1; have y0 := hra2 0 _ rfl; rw [Nat.add_zero] at y0; have HY0 : Sl (w.cell? ⟨gb2, oo2 + d * 3, none⟩ = some (.string y.nm) ∧ gb2 < w.heap.size) := ⟨y0, hgb2⟩; have hdn : d < o.n1 := (by omega); have HDN : Sl (d < o.n1) := ⟨hdn⟩; obtain ⟨ynm, hyn⟩ : ∃ ynm, y.nm = ynm := ⟨_, rfl⟩; rw [hyn] at hs2 HTK HY0; obtain ⟨nm, dv, fn, fd, XA, xn, xc, ps⟩ := x; simp only [] at x0 x1 x2 x3 x4 hs1 HTK; have HSZ : Sl (nm.size ≤ 16 ∧ ynm.size ≤ 16) := ⟨hs1, hs2⟩; rw [hA3]; have HA3 : Sl _ := ⟨hA3⟩; have HA1 : Sl _ := ⟨hA1⟩; clear hra hra2 hx hy hnm hynm htk hA3 hA1 y0 hyn hd hd0 hd1 hgb2 hdn hs1 hs2
      go_upto_region 4 with ((with_reducible show wpList _ _ _ _ _ _); first
        | (refine wpList_alloc_new 5 rfl rfl 100 rfl #[.string ⟨#[]⟩, .int .i64 0, .int .i64 0, .int .i64 0, .slice none 0 0] alloc_stop ?_; rintro wa gx zg zm zs zb; replace HO : Sl (OS _ _ _ _ _ _) := ⟨HO.out.below (below_mv (Below.refl _ _) zm (Nat.le_refl _) (Nat.le_refl _))⟩; replace HD : Sl _ := ⟨HD.out.new zg zm zb⟩; clear zg zm zs zb)
        | (refine wpList_store_whole rfl 100 (.tmp 5) (.tmp 14) rfl gx #[.string nm, .int .i64 (d : Int), .int .i64 fn, .int .i64 fd, .slice XA xn xc] rfl rfl 100 _ (HD.out.at_ 0 rfl) rfl (by kernel_rfl) (by simp [Value.oneCell']) ?_; rintro wb zm zs zb; replace HO : Sl (OS _ _ _ _ _ _) := ⟨HO.out.mv zm (fun k hk e => HO.out.ne_blk (HD.out.at_ 0 rfl) (by decide) (by rw [hk, e]))⟩; replace HD : Sl _ := ⟨HD.out.upd zm zb⟩; clear zm zs zb))
      clear x0 x1 x2 x3 x4; have hS0 : wb.grownBy wb.drew (Value.slice A k cA).ownBlock := grown_of_below (below_drewN (Below.refl _ _) 1)
      have HFR : Sl (∀ w' : World, wb.grownBy w' (Value.slice A k cA).ownBlock → (w'.cell? ⟨gx, 0, none⟩ = some (.string nm) ∧ w'.cell? ⟨gx, 1, none⟩ = some (.int .i64 (d : Int))) ∧ w'.cell? ⟨gs, 0, none⟩ = some (.slice (some ⟨gb2, oo2, none⟩) o.n1 o.c1) ∧ w'.cell? ⟨gb2, oo2 + d * 3, none⟩ = some (.string ynm)) := ⟨fun w' h => by
        have b1 := blk_grown (HD.out.at_ 0 rfl) h (fun e => HO.out.ne_blk (HD.out.at_ 0 rfl) (by decide) e); have b2 := blk_grown (HD.out.at_ 1 rfl) h (fun e => HO.out.ne_blk (HD.out.at_ 1 rfl) (by decide) e); refine ⟨⟨b1.cell 0, b1.cell 1⟩, (b2.cell 0).trans (by rw [← HA1.out]; rfl), ?_⟩; have e1 := HD.out.bl.cell (p := ⟨gb2, oo2 + d * 3, none⟩) HY0.out.2; rw [← HY0.out.1, ← e1]
        exact World.cell?_of_block (h.block gb2 (Nat.lt_of_lt_of_le HY0.out.2 HD.out.bl.size) (fun e2 => by have := (HO.out.lt gb2 e2.symm).1; have := HY0.out.2; omega))⟩
      have hs1 := HSZ.out.1; have hs2 := HSZ.out.2; have h64 : (⟨#[64]⟩ : ByteArray).size = 1 := rfl; have hdI1 : (0 : Int) ≤ (d : Int) := (by omega); have hdI2 : (d : Int) < (o.n1 : Int) := (by have := HDN.out; omega); have hdN := HDN.out; have hm := hS0; clear hS0; refine wp_region_held_drew (S := fun w' => wb.grownBy w' (Value.slice A k cA).ownBlock) (by kernel_rfl) hm (fun hHeld => ?_); clear hm; refine wpAnyH_pure 0 (v := .slice A k cA) rfl (by kernel_rfl) (by kernel_rfl) (by kernel_rfl) (fun _ _ _ h => h) rfl (fun _ => rfl) (by assumption) ?_; simp only [Act.put, sS0, sS1, sS2]; refine wpAnyH_pure 1 (v := .pointer (some ⟨gx, 0, none⟩)) rfl (by kernel_rfl) (by kernel_rfl) (by kernel_rfl) (fun _ _ _ h => h) rfl (fun _ => by go_simp) (by assumption) ?_; simp only [Act.put, sS0, sS1, sS2]
      refine wpAnyH_cell 2 (v := .string nm) rfl rfl (fun w' h => by
        have hc := (HFR.out w' h).1.1
        go_simp) (by kernel_rfl) (by kernel_rfl) (by kernel_rfl) (fun _ _ _ h => h) (by assumption) ?_
      simp only [Act.put, sS0, sS1, sS2]; refine wpAnyH_pure 3 (v := .string (nm ++ ⟨#[64]⟩)) rfl (by kernel_rfl) (by kernel_rfl) (by kernel_rfl) (fun _ _ _ h => h) rfl (fun _ => by go_simp; omega) (by assumption) ?_; simp only [Act.put, sS0, sS1, sS2]; refine wpAnyH_pure 4 (v := .pointer (some ⟨gs, 0, none⟩)) rfl (by kernel_rfl) (by kernel_rfl) (by kernel_rfl) (fun _ _ _ h => h) rfl (fun _ => by go_simp) (by assumption) ?_; simp only [Act.put, sS0, sS1, sS2]
      refine wpAnyH_cell 5 (v := .slice (some ⟨gb2, oo2, none⟩) o.n1 o.c1) rfl rfl (fun w' h => by
        have hc := (HFR.out w' h).2.1
        go_simp) (by kernel_rfl) (by kernel_rfl) (by kernel_rfl) (fun _ _ _ h => h) (by assumption) ?_
      simp only [Act.put, sS0, sS1, sS2]; refine wpAnyH_pure 6 (v := .pointer (some ⟨gx, 1, none⟩)) rfl (by kernel_rfl) (by kernel_rfl) (by kernel_rfl) (fun _ _ _ h => h) rfl (fun _ => by go_simp) (by assumption) ?_; simp only [Act.put, sS0, sS1, sS2]
      refine wpAnyH_cell 7 (v := .int .i64 (d : Int)) rfl rfl (fun w' h => by
        have hc := (HFR.out w' h).1.2
        go_simp) (by kernel_rfl) (by kernel_rfl) (by kernel_rfl) (fun _ _ _ h => h) (by assumption) ?_
      simp only [Act.put, sS0, sS1, sS2]; refine wpAnyH_pure 8 (v := .pointer (some ⟨gb2, oo2 + d * 3, none⟩)) rfl (by kernel_rfl) (by kernel_rfl) (by kernel_rfl) (fun _ _ _ h => h) rfl (fun _ => by go_simp) (by assumption) ?_; simp only [Act.put, sS0, sS1, sS2]; refine wpAnyH_pure 9 (v := .pointer (some ⟨gb2, oo2 + d * 3, none⟩)) rfl (by kernel_rfl) (by kernel_rfl) (by kernel_rfl) (fun _ _ _ h => h) rfl (fun _ => by go_simp) (by assumption) ?_; simp only [Act.put, sS0, sS1, sS2]
      refine wpAnyH_cell 10 (v := .string ynm) rfl rfl (fun w' h => by
        have hc := (HFR.out w' h).2.2
        go_simp) (by kernel_rfl) (by kernel_rfl) (by kernel_rfl) (fun _ _ _ h => h) (by assumption) ?_
      simp only [Act.put, sS0, sS1, sS2]; refine wpAnyH_pure 11 (v := .string (nm ++ ⟨#[64]⟩ ++ ynm)) rfl (by kernel_rfl) (by kernel_rfl) (by kernel_rfl) (fun _ _ _ h => h) rfl (fun _ => by go_simp; omega) (by assumption) ?_; simp only [Act.put, sS0, sS1, sS2]; refine wpAnyH_one 12 rfl (by kernel_rfl) rfl (fun K hK => ?_); refine wp_of_runc (.slice (some ⟨wb.heap.size, 0, none⟩) 1 1) (wb.drew.alloc (.cells #[.string (nm ++ ⟨#[64]⟩ ++ ynm)] 9)) (by kernel_rfl) ?_; have HGA : Sl (wb.grownBy (wb.drew.alloc (.cells #[.string (nm ++ ⟨#[64]⟩ ++ ynm)] 9)) (Value.slice A k cA).ownBlock) := ⟨grown_of_below ((show Below wb.heap.size wb wb.drew from below_drewN (Below.refl _ _) 1).alloc (by exact Nat.le_refl _) _)⟩; refine hK.out _ _ HGA.out (fun hHeld => ?_); clear hK K; simp only [Act.put, sS0, sS1, sS2]; refine wpAnyH_one 13 rfl (by kernel_rfl) rfl (fun K hK => ?_); have hOA : OS (wb.drew.alloc (.cells #[.string (nm ++ ⟨#[64]⟩ ++ ynm)] 9)) w.heap.size A k cA ((snm o).take k) := (show OS wb.drew _ _ _ _ _ from HO.out).alloc _; refine wp_append_os (.tmp 15) (.tmp 27) rfl w.heap.size A k cA ((snm o).take k) rfl hOA (some ⟨wb.drew.heap.size, 0, none⟩) 1 1 [nm ++ ⟨#[64]⟩ ++ ynm] rfl (SS.made wb.drew _ _) (by omega) (Nat.le_trans HD.out.bl.size (by simp)) ?_; rintro A2 c2 w6 zo zg zt; have HG6 : Sl (wb.grownBy w6 (Value.slice A k cA).ownBlock) := ⟨grown_trans HGA.out zg⟩; have HO6 : Sl _ := ⟨zo⟩; refine hK.out _ _ HG6.out (fun hHeld => ?_); clear hK K zo zg zt hOA; simp only [Act.put, sS0, sS1, sS2]; refine wpAnyH_pure 14 (v := .slice A2 (k + 1) c2) rfl (by kernel_rfl) (by kernel_rfl) (by kernel_rfl) (fun _ _ _ h => h) rfl (fun _ => rfl) (by assumption) ?_; simp only [Act.put, sS0, sS1, sS2]; refine wpAnyH_done (by kernel_rfl) ?_ _; clear hHeld hs1 hs2 h64 hdI1 hdI2 hdN
      have hD6 := ((HD.out.grown HG6.out (fun q hq => (HO.out.lt q hq).1) (fun q hq e => by
        simp only [List.mem_cons, List.not_mem_nil, or_false] at hq; rcases hq with rfl | rfl
        · exact HO.out.ne_blk (HD.out.at_ 0 rfl) (by decide) e
        · exact HO.out.ne_blk (HD.out.at_ 1 rfl) (by decide) e))).drop
      have HD6 : Sl _ := ⟨hD6⟩; clear hD6 HGA HFR; go_wp2_with fail; exact ⟨⟨k + 1, A2, c2, by omega, rfl, by go_num, ⟨by rw [← HA3.out]; exact HD6.out, by rw [HTK.out]; exact HO6.out⟩⟩, by simp [RowKit.intOf]; omega⟩
    · obtain rfl : k = o.n3 := (by omega); have hsl : (snm o).take o.n3 = snm o := List.take_of_length_le (by unfold snm; rw [List.length_map, HM.out.s.len]; exact Nat.le_refl _); rw [hsl] at HO; clear hsl; have c3 := (HD.out.at_ 0 rfl).cell 3; simp at c3; go_wp2_with fail; clear c3; have HLE : Sl (w.heap.size ≤ wr.heap.size) := ⟨HD.out.bl.size⟩
      rename World => wv
      have H3 : Sl (OS wv w.heap.size A o.n3 cA (snm o)) := ⟨HO.out⟩; clear HO
      go_loopw [3, 33] (fun s3 s33 wx => ∃ (j : Nat) (B : Option Addr) (cB : Nat), j ≤ o.n4 ∧ s3 = .slice B j cB ∧ s33 = .int .i64 j ∧ Sl (Lg w wx [(gs, 27, #[.slice o.A1 o.n1 o.c1, .slice o.A2 o.n2 o.c2, .slice o.A3 o.n3 o.c3, .slice o.A4 o.n4 o.c4])] ∧ OS wx wv.heap.size B j cB ((cnm o).take j) ∧ Below wv.heap.size wv wx)) (fun _ s33 _ => o.n4 - (RowKit.intOf s33).toNat)
      case atStart => exact ⟨0, none, 0, Nat.zero_le _, rfl, rfl, ⟨HD.out, OS.nil _ _, Below.refl _ _⟩⟩
      case round =>
        clear HD; obtain ⟨j, B, cB, hj, rfl, rfl, HK⟩ := hrel; have HD : Sl _ := ⟨HK.out.1⟩; have HO : Sl _ := ⟨HK.out.2.1⟩; have HW : Sl _ := ⟨HK.out.2.2⟩; clear HK
        by_cases hjn : j < o.n4
        · have hjI : decide ((j : Int) < (o.n4 : Int)) = true := decide_eq_true (by omega); have hjI2 : (j : Int) < (o.n4 : Int) := (by omega); obtain ⟨gb, oo, x, hA4, hgb, hx, hra⟩ := (HM.out.c.below HD.out.bl).at_ (by omega) hjn; have hnm := HNM.out.2.2 x (List.mem_of_getElem? hx); have hs1 := (nmB_size hnm).2
          have htk : (cnm o).take (j + 1) = (cnm o).take j ++ [⟨#[43]⟩ ++ x.nm] := by
            unfold cnm; rw [List.take_add_one, List.getElem?_map, hx]; rfl
          have HTK : Sl _ := ⟨htk⟩; have x0 := hra 0 _ rfl; have x1 := hra 1 _ rfl; have x2 := hra 2 _ rfl; have x3 := hra 3 _ rfl; have x4 := hra 4 _ rfl; have x5 := hra 5 _ rfl; rw [Nat.add_zero] at x0; obtain ⟨nm, fr, tt, sh, on, th⟩ := x; simp only [] at x0 x1 x2 x3 x4 x5 hs1 HTK; rw [hA4]; have HA4 : Sl _ := ⟨hA4⟩; clear hra hx hnm htk hA4; have h43 : (⟨#[43]⟩ : ByteArray).size = 1 := rfl
          go_wp2_with ((with_reducible show wpList _ _ _ _ _ _); first
            | (refine wpList_alloc_new 7 rfl rfl 102 rfl #[.string ⟨#[]⟩, .int .i64 0, .int .i64 0, .int .i64 0, .int .i64 0, .bool false] alloc_coup ?_; rintro wa gx zg zm zs zb; have HGX : Sl (wv.heap.size ≤ gx) := ⟨by rw [zg]; exact HW.out.size⟩; replace HO : Sl (OS _ _ _ _ _ _) := ⟨HO.out.below (below_mv (Below.refl _ _) zm (Nat.le_refl _) (Nat.le_refl _))⟩; replace HW : Sl _ := ⟨below_mv HW.out zm HW.out.size HW.out.size⟩; replace HD : Sl _ := ⟨HD.out.new zg zm zb⟩; clear zg zm zs zb)
            | (refine wpList_store_whole rfl 102 (.tmp 7) (.tmp 36) rfl gx #[.string nm, .int .i64 fr, .int .i64 tt, .int .i64 sh, .int .i64 on, .bool th] rfl rfl 102 _ (HD.out.at_ 0 rfl) rfl (by kernel_rfl) (by simp [Value.oneCell']) ?_; rintro wb zm zs zb; replace HO : Sl (OS _ _ _ _ _ _) := ⟨HO.out.mv zm (fun k hk e => HO.out.ne_blk (HD.out.at_ 0 rfl) (by decide) (by rw [hk, e]))⟩; replace HW : Sl _ := ⟨below_mv HW.out zm HGX.out HW.out.size⟩; replace HD : Sl _ := ⟨HD.out.upd zm zb⟩; have cc0 := zb.cell 0; simp at cc0; clear zm zs zb)
            | (at_builtin; go_loud (refine wpList_append_os rfl (.tmp 37) (.tmp 41) rfl wv.heap.size B j cB ((cnm o).take j) rfl (HO.out.alloc _) (some ⟨wb.heap.size, 0, none⟩) 1 1 [⟨#[43]⟩ ++ nm] rfl (SS.made _ _ _) (by omega) (Nat.le_trans HW.out.size (by simp)) ?_); rintro B2 c2 w2 zo zg zt; have HZ : Sl _ := ⟨And.intro zo zg⟩; clear zo zg zt))
          have hD2 := ((HD.out.below ((Below.refl _ _).alloc (Nat.le_refl _) (.cells #[.string (⟨#[43]⟩ ++ nm)] 9))).grown HZ.out.2 (fun q hq => Nat.le_trans HLE.out (HO.out.lt q hq).1) (fun q hq e => by
            simp only [List.mem_cons, List.not_mem_nil, or_false] at hq; rcases hq with rfl | rfl
            · exact HO.out.ne_blk (HD.out.at_ 0 rfl) (by decide) e
            · exact HO.out.ne_blk (HD.out.at_ 1 rfl) (by decide) e)).drop
          have HB2 : Sl (Below wv.heap.size wv w2) := ⟨below_grown (HW.out.alloc HW.out.size _) HZ.out.2 (Nat.le_trans HW.out.size (by simp)) (fun q hq => (HO.out.lt q hq).1)⟩; exact ⟨⟨j + 1, B2, c2, by omega, rfl, by go_num, ⟨by rw [← HA4.out]; exact hD2, by rw [HTK.out]; exact HZ.out.1, HB2.out⟩⟩, by simp [RowKit.intOf]; omega⟩
        · obtain rfl : j = o.n4 := (by omega); have hsl : (cnm o).take o.n4 = cnm o := List.take_of_length_le (by unfold cnm; rw [List.length_map, HM.out.c.len]; exact Nat.le_refl _); rw [hsl] at HO; clear hsl; go_wp2_with fail; go_ret2; exact ⟨⟨A, cA, B, cB, rfl, H3.out.below HW.out, HO.out.mono HLE.out⟩, HD.out.bl⟩
end Go.Proofs.YtbaojmfkjpnfhaaGreatDoor
namespace Go.Proofs.YtbaojmfkjpnfhaaGreatDoor
set_option linter.unusedSimpArgs false
open Go.RowKit
set_option linter.unusedVariables false
theorem lays166 : Go.Proofs.Lays.n166 Tryz.prog Tryz.lays156_ren := {
  mixed := Tryz.lays156.mixed
  f166 := Tryz.lays156.f166
  f240 := Tryz.lays156.f240
  f276 := Tryz.lays156.f276
  t0 := Tryz.lays156.t0
  a0 := Tryz.lays156.a0
  z0 := Tryz.lays156.z0
  v0 := Tryz.lays156.v0
  t3 := Tryz.lays156.t3
  a3 := Tryz.lays156.a3
  z3 := Tryz.lays156.z3
  v3 := Tryz.lays156.v3
  t4 := Tryz.lays156.t4
  a4 := Tryz.lays156.a4
  z4 := Tryz.lays156.z4
  v4 := Tryz.lays156.v4
  t9 := Tryz.lays156.t9
  a9 := Tryz.lays156.a9
  z9 := Tryz.lays156.z9
  v9 := Tryz.lays156.v9
  t20 := Tryz.lays156.t20
  a20 := Tryz.lays156.a20
  z20 := Tryz.lays156.z20
  v20 := Tryz.lays156.v20
  t37 := Tryz.lays156.t37
  a37 := Tryz.lays156.a37
  z37 := Tryz.lays156.z37
  v37 := Tryz.lays156.v37
  t70 := Tryz.lays156.t70
  a70 := Tryz.lays156.a70
  z70 := Tryz.lays156.z70
  v70 := Tryz.lays156.v70
  t72 := Tryz.lays156.t72
  a72 := Tryz.lays156.a72
  z72 := Tryz.lays156.z72
  v72 := Tryz.lays156.v72
  t75 := Tryz.lays156.t75
  a75 := Tryz.lays156.a75
  z75 := Tryz.lays156.z75
  v75 := Tryz.lays156.v75
  t164 := Tryz.lays156.t164
  a164 := Tryz.lays156.a164
  z164 := Tryz.lays156.z164
  v164 := Tryz.lays156.v164 }
theorem lays169 : Go.Proofs.Lays.n169 Tryz.prog Tryz.lays156_ren := {
  mixed := Tryz.lays156.mixed
  f169 := Tryz.lays156.f169
  t0 := Tryz.lays156.t0
  a0 := Tryz.lays156.a0
  z0 := Tryz.lays156.z0
  v0 := Tryz.lays156.v0
  t3 := Tryz.lays156.t3
  a3 := Tryz.lays156.a3
  z3 := Tryz.lays156.z3
  v3 := Tryz.lays156.v3
  t9 := Tryz.lays156.t9
  a9 := Tryz.lays156.a9
  z9 := Tryz.lays156.z9
  v9 := Tryz.lays156.v9
  t37 := Tryz.lays156.t37
  a37 := Tryz.lays156.a37
  z37 := Tryz.lays156.z37
  v37 := Tryz.lays156.v37
  t70 := Tryz.lays156.t70
  a70 := Tryz.lays156.a70
  z70 := Tryz.lays156.z70
  v70 := Tryz.lays156.v70
  t72 := Tryz.lays156.t72
  a72 := Tryz.lays156.a72
  z72 := Tryz.lays156.z72
  v72 := Tryz.lays156.v72
  t127 := Tryz.lays156.t127
  a127 := Tryz.lays156.a127
  z127 := Tryz.lays156.z127
  v127 := Tryz.lays156.v127 }
def BD (w : World) (b : Nat) (s : ByteArray) : Prop := Lib.IsBuilderF 148 5 b b (Lib.byteCells s.data.toList) w
theorem BD.at_ {w : World} {b : Nat} {s : ByteArray} (h : BD w b s) : ∃ p v, (p = .pointer none ∨ p = .pointer (some ⟨b, 0, none⟩)) ∧ Blk w b 148 #[p, v] ∧ w.ownsRowF b 5 1 v (Lib.byteCells s.data.toList).length (Lib.byteCells s.data.toList) ∧ v.ownBlock ≠ some b := by
  rcases h with ⟨_, v, h1, h2, h3⟩ | ⟨_, v, h1, h2, h3⟩
  · exact ⟨_, v, .inl rfl, h1, h2, h3⟩
  · exact ⟨_, v, .inr rfl, h1, h2, h3⟩
theorem BD.keep {w w' : World} {b : Nat} {s : ByteArray} (h : BD w b s) (hk : ∀ k c t fz, w.heap[k]? = some (.cells c t fz) → (k = b ∨ t = 5) → w'.heap[k]? = w.heap[k]?) : BD w' b s := by
  have key : ∀ p, Lib.BuilderAtF 148 5 b b p (Lib.byteCells s.data.toList) w → Lib.BuilderAtF 148 5 b b p (Lib.byteCells s.data.toList) w' := by
    rintro p ⟨h0, v, h1, h2, h3⟩; refine ⟨h0, v, (hk b _ _ _ h1 (.inl rfl)).trans h1, ⟨h2.1, ?_⟩, h3⟩; rcases h2.2 with e | ⟨g, cap, cur, fz, e1, hb, hh, hr⟩
    · exact .inl e
    · exact .inr ⟨g, cap, cur, fz, e1, hb, (hk g _ _ _ hh (.inr rfl)).trans hh, hr⟩
  exact h.imp (key _) (key _)
theorem BD.below {w w' : World} {b : Nat} {s : ByteArray} (h : BD w b s) (hb : Below w.heap.size w w') : BD w' b s :=
  h.keep fun k c t fz hc _ => hb.block k ((Array.getElem?_eq_some_iff.1 hc).1)
theorem BD.mv {w w' : World} {b g : Nat} {s : ByteArray} {t : TypeId} {cs : Array Value} (h : BD w b s) (hm : Mv g w w') (hB : Blk w g t cs) (ht : t ≠ 5) (hne : t ≠ 148) : BD w' b s :=
  h.keep fun k c u fz hc hu => hm.block k ((Array.getElem?_eq_some_iff.1 hc).1) (fun e => by
    subst e; rw [hB] at hc; injection hc with hc
    injection hc with _ e2 _
    rcases hu with rfl | rfl
    · obtain ⟨p, v, _, h1, _⟩ := h.at_; have h1 := Option.some.inj (hB.symm.trans h1); injection h1 with _ e3 _
      exact hne e3
    · exact ht e2)
theorem OS.blk {w : World} {base : Nat} {A : Option Addr} {n c : Nat} {l : List ByteArray} (h : OS w base A n c l) {k : Nat} (hk : (Value.slice A n c).ownBlock = some k) : ∃ cs, Blk w k 9 cs := by
  rcases h.2 with ⟨h0, _⟩ | ⟨b, cap, cur, e1, _, hh, _⟩
  · rw [h0] at hk; cases hk
  · rw [e1] at hk; injection hk with hk
    subst hk; exact ⟨cur, hh⟩
theorem BD.grown {w w' : World} {b base : Nat} {s : ByteArray} {A : Option Addr} {n c : Nat} {l : List ByteArray} (h : BD w b s) (ho : OS w base A n c l) (hg : w.grownBy w' (Value.slice A n c).ownBlock) : BD w' b s :=
  h.keep fun k cc u fz hc hu => hg.block k ((Array.getElem?_eq_some_iff.1 hc).1) (fun e => by
    obtain ⟨cs, hB⟩ := ho.blk e.symm; rw [hB] at hc; injection hc with hc
    injection hc with _ e2 _
    rcases hu with rfl | rfl
    · obtain ⟨p, v, _, h1, _⟩ := h.at_; have h1 := Option.some.inj (hB.symm.trans h1); injection h1 with _ e3 _
      exact absurd e3 (by decide)
    · exact absurd e2 (by decide))
theorem BD.new {w : World} {b : Nat} (h : Blk w b 148 #[.pointer none, .slice none 0 0]) : BD w b ⟨#[]⟩ :=
  .inl ⟨Nat.le_refl _, _, h, World.ownsRowF_nil _ _ _ _, by intro e; cases e⟩
theorem BD.lt {w : World} {b : Nat} {s : ByteArray} (h : BD w b s) : b < w.heap.size := by
  obtain ⟨p, v, _, h1, _⟩ := h.at_; exact Blk.lt h1
theorem blk_kept {w w' : World} {b g : Nat} {s : ByteArray} {t : TypeId} {cs : Array Value} (hB : Blk w g t cs) (h : BD w b s) (hk : Lib.OthersKept 5 (some b) w w') (ht : t ≠ 5) (hne : t ≠ 148) : Blk w' g t cs := by
  refine hk g _ hB (fun e => ?_) (fun c fz e => ?_)
  · injection e with e
    subst e; obtain ⟨p, v, _, h1, _⟩ := h.at_; have h1 := Option.some.inj (hB.symm.trans h1); injection h1 with _ e3 _
    exact hne e3
  · injection e with _ e2 _
    exact ht e2
theorem Lg.kept {w0 w w' : World} {b : Nat} {s : ByteArray} {l : List (Nat × TypeId × Array Value)} (h : Lg w0 w l) (hb : BD w b s) (hk : Lib.OthersKept 5 (some b) w w') (hbl : Below b w w') (hwb : w0.heap.size ≤ b) (ht : ∀ p ∈ l, p.2.1 ≠ 5 ∧ p.2.1 ≠ 148) : Lg w0 w' l :=
  ⟨⟨h.bl.trans (hbl.mono hwb), fun p hp => blk_kept (h.ld.all p hp) hb hk (ht p hp).1 (ht p hp).2, h.ld.ge⟩, h.nd⟩
theorem OS.kept {w w' : World} {b base : Nat} {s : ByteArray} {A : Option Addr} {n c : Nat} {l : List ByteArray} (h : OS w base A n c l) (hb : BD w b s) (hk : Lib.OthersKept 5 (some b) w w') : OS w' base A n c l := by
  refine ⟨h.1, ?_⟩; rcases h.2 with h0 | ⟨g, cap, cur, e1, h2, hh, hr⟩
  · exact .inl h0
  · exact .inr ⟨g, cap, cur, e1, h2, blk_kept hh hb hk (by decide) (by decide), hr⟩
theorem wstr_any (b : Nat) (s t : ByteArray) (w : World) (h : BD w b s) (hl : s.size + t.size ≤ 140737488355328) :
    Calls Tryz.prog 95 #[.pointer (some ⟨b, 0, none⟩), .string t] w fun e w' => (∃ v : Int, e = .returned (.tuple #[.int .i64 v, .nilIface])) ∧ BD w' b (s ++ t) ∧ Below b w w' ∧ Lib.OthersKept 5 (some b) w w' := by
  have hlen : (Lib.byteCells s.data.toList).length = s.size := (by rw [Lib.byteCells_length]; rfl); refine (Any.Builder_WriteString_k lays166 Tryz.Builder_Extra_156 b b _ t w h (by omega) (Nat.le_of_lt h.lt)).mono ?_; rintro e w' ⟨h1, h2, h3, h4⟩; refine ⟨⟨_, h1⟩, .inr ?_, h3, h4⟩
  have e : Lib.byteCells (s ++ t).data.toList = Lib.byteCells s.data.toList ++ Lib.strCells t := by
    unfold Lib.byteCells Lib.strCells; rw [ByteArray.data_append, Array.toList_append, List.map_append]
  rw [e]; exact h2
theorem bstr_any (b : Nat) (s : ByteArray) (w : World) (h : BD w b s) :
    Calls Tryz.prog 97 #[.pointer (some ⟨b, 0, none⟩)] w fun e w' => e = .returned (.string s) ∧ Below b w w' := by
  refine (Any.Builder_String_any_k lays169 Tryz.Builder_Extra_156 b b s.data.toList w h (Nat.le_of_lt h.lt)).mono ?_; rintro e w' ⟨h1, _, h3, _⟩; exact ⟨by rw [h1], h3⟩
def joinB (l : List ByteArray) : ByteArray := ⟨(Lib.join (l.map (·.data.toList)) [32]).toArray⟩
theorem OS.at_ {w : World} {base : Nat} {A : Option Addr} {n c : Nat} {l : List ByteArray} (h : OS w base A n c l) (hn : 0 < n) : ∃ g, A = some ⟨g, 0, none⟩ ∧ base ≤ g ∧ g < w.heap.size ∧ ∀ j, j < n → w.cell? ⟨g, j, none⟩ = some (.string (l[j]?.getD ⟨#[]⟩)) := by
  have hs := h.ss; have hlt := h.lt; rcases h.2 with ⟨h0, h1⟩ | ⟨g, cap, cur, e1, h2, hh, hr⟩
  · omega
  · injection e1 with e1 _ _
    subst e1; refine ⟨g, rfl, h2, Blk.lt (t := 9) (cs := cur) hh, fun j hj => ?_⟩; obtain ⟨ad, e, _, hc⟩ := hs.cell hj; injection e with e
    subst e; rw [show (⟨g, 0, none⟩ : Addr).add j = ⟨g, j, none⟩ by unfold Addr.add; split <;> simp_all] at hc; exact hc
theorem join_any (base : Nat) (A : Option Addr) (n c : Nat) (l : List ByteArray) (w : World) (h : OS w base A n c l) (hn : n ≤ 1000000) (hl : (joinB l).size ≤ 1000000000) :
    Calls Tryz.prog 96 #[.slice A n c, .string ⟨#[32]⟩] w fun e w' => e = .returned (.string (joinB l)) ∧ Below w.heap.size w w' := by
  have hlen := h.len; subst hlen; rcases Nat.eq_zero_or_pos l.length with h0 | h0
  · have : l = [] := List.length_eq_zero_iff.1 h0; subst this; refine (Tryz.strings_Join_none A c ⟨#[32]⟩ w).mono ?_; rintro e w' ⟨h3, h4⟩; exact ⟨h3, h4 ▸ Below.refl _ _⟩
  · obtain ⟨g, rfl, _, hb, hc⟩ := h.at_ h0; refine (Tryz.strings_Join g 0 c l ⟨#[32]⟩ w (fun j x hx => ?_) hb (by omega) h.cap.1 ?_).mono ?_
    · rw [Nat.zero_add, hc j (List.getElem?_eq_some_iff.1 hx).1, hx]; rfl
    · have : (joinB l).size = (Lib.join (l.map (·.data.toList)) [32]).length := rfl; have e : (⟨#[32]⟩ : ByteArray).data.toList = [32] := rfl; rw [e]; omega
    · rintro e w' ⟨h3, h4⟩; exact ⟨h3, h4⟩
end Go.Proofs.YtbaojmfkjpnfhaaGreatDoor
namespace Go.Proofs.YtbaojmfkjpnfhaaGreatDoor
set_option linter.unusedSimpArgs false
open Go.RowKit
set_option linter.unusedVariables false
def kFr : ByteArray := ⟨#[102, 114, 97, 109, 101]⟩
def kMo : ByteArray := ⟨#[109, 111, 114, 101]⟩
theorem joinTail_len {m : Nat} : ∀ r : List (List UInt8), (∀ x ∈ r, x.length ≤ m) → (Lib.joinTail [32] r).length ≤ r.length * (m + 1)
  | [], _ => by simp [Lib.joinTail]
  | x :: r, h => by
    have h1 := joinTail_len r (fun y hy => h y (List.mem_cons_of_mem _ hy)); have h2 := h x (List.mem_cons_self ..); unfold Lib.joinTail at h1 ⊢; rw [List.map_cons, List.flatten_cons, List.length_append, List.length_append, List.length_cons, List.length_cons, List.length_nil, Nat.add_mul]; omega
theorem joinB_size {m : Nat} (l : List ByteArray) (h : ∀ x ∈ l, x.size ≤ m) : (joinB l).size ≤ l.length * (m + 1) := by
  have e : (joinB l).size = (Lib.join (l.map (·.data.toList)) [32]).length := rfl; rw [e]
  cases l with
  | nil => simp [Lib.join, List.intercalate]
  | cons x r =>
    rw [List.map_cons, Lib.join_cons, List.length_append, List.length_cons, Nat.add_mul]
    have h1 := joinTail_len (m := m) (r.map (·.data.toList)) (fun y hy => by
      obtain ⟨z, hz, rfl⟩ := List.mem_map.1 hy
      exact h z (List.mem_cons_of_mem _ hz))
    have h2 : x.data.toList.length ≤ m := h x (List.mem_cons_self ..); rw [List.length_map] at h1; omega
def lineB (kw : ByteArray) (X : List ByteArray) : ByteArray := joinB (kw :: X.take 20) ++ ⟨#[10]⟩
theorem join_size33 {kw : ByteArray} {X : List ByteArray} (hk : kw.size ≤ 5) (hX : ∀ x ∈ X, x.size ≤ 33) : (joinB (kw :: X.take 20)).size ≤ 714 := by
  have h := joinB_size (m := 33) (kw :: X.take 20) (fun x hx => by
    rcases List.mem_cons.1 hx with rfl | hx
    · omega
    · exact hX x (List.mem_of_mem_take hx))
  have : (kw :: X.take 20).length ≤ 21 := (by rw [List.length_cons, List.length_take]; omega); have h2 : (kw :: X.take 20).length * (33 + 1) ≤ 21 * 34 := Nat.mul_le_mul this (Nat.le_refl _); omega
theorem lineB_size {kw : ByteArray} {X : List ByteArray} (hk : kw.size ≤ 5) (hX : ∀ x ∈ X, x.size ≤ 33) : (lineB kw X).size ≤ 1000 := by
  have := join_size33 hk hX; unfold lineB; rw [ByteArray.size_append]; have : (⟨#[10]⟩ : ByteArray).size = 1 := rfl; omega
def frmT : Nat → ByteArray → List ByteArray → ByteArray
  | 0, kw, X => lineB kw X
  | f + 1, kw, X => if 20 < X.length then lineB kw X ++ frmT f kMo (X.drop 20) else lineB kw X
theorem frmT_last {f : Nat} {kw : ByteArray} {X : List ByteArray} (h : X.length ≤ 20) : frmT f kw X = lineB kw X := by
  cases f with
  | zero => rfl
  | succ f => rw [frmT, if_neg (by omega)]
def frmN (o : SpO) (r : RgV) : List ByteArray := r.l.map (fun i => (snm o)[i.toNat]?.getD ⟨#[]⟩) ++ r.k.map (fun i => (cnm o)[i.toNat]?.getD ⟨#[]⟩)
def frmX (o : SpO) (r : RgV) : ByteArray := frmT 5 kFr (frmN o r)
def prtX (o : SpO) (L : List RgV) : ByteArray := L.foldl (fun s r => s ++ frmX o r) ⟨#[]⟩
theorem prtX_succ {o : SpO} {L : List RgV} {k : Nat} {x : RgV} (h : L[k]? = some x) : prtX o (L.take (k + 1)) = prtX o (L.take k) ++ frmX o x := by
  unfold prtX; rw [List.take_add_one, h, List.foldl_append]; rfl
def frmK (o : SpO) (L : List RgV) (i : Nat) : Int := regE o (L[i]?.getD rg0)
def printE (o : SpO) (L : List RgV) : Int := if specE o = 0 then (if 500 < L.length then 3 else fstE (frmK o L) L.length 0) else specE o
def printX (o : SpO) (L : List RgV) : ByteArray := if printE o L = 0 then prtX o L else ⟨#[]⟩
theorem nms_size {o : SpO} (h : specE o = 0) : (∀ x ∈ snm o, x.size ≤ 33) ∧ ∀ x ∈ cnm o, x.size ≤ 33 := by
  obtain ⟨h1, h2, h3⟩ := specE_nm h; refine ⟨fun x hx => ?_, fun x hx => ?_⟩
  · obtain ⟨y, hy, rfl⟩ := List.mem_map.1 hx; have e1 := (nmB_size (h2 y hy).1).2
    have e2 : (o.ds[y.dv.toNat]?.getD dv0).nm.size ≤ 16 := by
      cases hd : o.ds[y.dv.toNat]? with
      | none => exact Nat.zero_le _
      | some d => exact (nmB_size (h1 d (List.mem_of_getElem? hd))).2
    unfold nmSt; rw [ByteArray.size_append, ByteArray.size_append]; have : (⟨#[64]⟩ : ByteArray).size = 1 := rfl; omega
  · obtain ⟨y, hy, rfl⟩ := List.mem_map.1 hx; have e1 := (nmB_size (h3 y hy)).2; show (⟨#[43]⟩ ++ y.nm).size ≤ 33; rw [ByteArray.size_append]; have : (⟨#[43]⟩ : ByteArray).size = 1 := rfl; omega
theorem getD_size {l : List ByteArray} (h : ∀ x ∈ l, x.size ≤ 33) (i : Nat) : (l[i]?.getD ⟨#[]⟩).size ≤ 33 := by
  cases hd : l[i]? with
  | none => exact Nat.zero_le _
  | some d => exact h d (List.mem_of_getElem? hd)
theorem frmN_size {o : SpO} (h : specE o = 0) (r : RgV) : ∀ x ∈ frmN o r, x.size ≤ 33 := by
  obtain ⟨h1, h2⟩ := nms_size h; intro x hx; rcases List.mem_append.1 hx with hx | hx
  · obtain ⟨i, _, rfl⟩ := List.mem_map.1 hx; exact getD_size h1 _
  · obtain ⟨i, _, rfl⟩ := List.mem_map.1 hx; exact getD_size h2 _
def dropA (A : Option Addr) (i : Nat) : Option Addr := A.map fun ad => ⟨ad.block, ad.off + i, none⟩
theorem SS.take {w : World} {A : Option Addr} {n m : Nat} {l : List ByteArray} (h : SS w A n l) (hm : m ≤ n) : SS w A m (l.take m) := by
  have hl := h.1; refine ⟨by rw [List.length_take]; omega, by rw [List.length_map, List.length_take]; omega, fun h0 => ?_⟩; obtain ⟨ad, e, hb, hc⟩ := h.2.2 (by omega); refine ⟨ad, e, hb, fun j u hu => hc j u ?_⟩; rw [List.map_take] at hu
  have hj : j < m := by
    have := (List.getElem?_eq_some_iff.1 hu).1; rw [List.length_take] at this; omega
  rw [List.getElem?_take_of_lt hj] at hu; exact hu
theorem OS.drop {w : World} {base : Nat} {A : Option Addr} {n c i : Nat} {l : List ByteArray} (h : OS w base A n c l) (hi : i ≤ n) : SS w (dropA A i) (n - i) (l.drop i) := by
  have hl := h.len; refine ⟨by rw [List.length_drop]; omega, by rw [List.length_map, List.length_drop]; omega, fun h0 => ?_⟩; obtain ⟨g, rfl, _, hb, hc⟩ := h.at_ (by omega); refine ⟨_, rfl, hb, fun j u hu => ?_⟩; rw [List.getElem?_map] at hu
  have hj : i + j < n := by
    cases hx : (l.drop i)[j]? with
    | none => rw [hx] at hu; cases hu
    | some d =>
      have := (List.getElem?_eq_some_iff.1 hx).1; rw [List.length_drop] at this; omega
  rw [List.getElem?_drop] at hu; have := hc (i + j) hj; rw [show (⟨g, 0 + i, none⟩ : Addr).add j = ⟨g, i + j, none⟩ by unfold Addr.add; split <;> simp_all, this]; rw [List.getElem?_eq_getElem (by omega)] at hu ⊢; exact hu
theorem OS.made (w : World) {base : Nat} (s : ByteArray) (hb : base ≤ w.heap.size) : OS (w.alloc (.cells #[.string s] 9)) base (some ⟨w.heap.size, 0, none⟩) 1 1 [s] :=
  ⟨rfl, .inr ⟨w.heap.size, 1, #[.string s], rfl, hb, Blk.new w _ _, Nat.le_refl _, by decide, rfl, rfl⟩⟩
structure PrS (wb W : World) (l : List (Nat × TypeId × Array Value)) (s : ByteArray) : Prop where
  lg : Lg wb W l
  bd : BD W wb.heap.size s
section
variable {wb W W' : World} {l : List (Nat × TypeId × Array Value)} {s : ByteArray}
theorem PrS.bl (h : PrS wb W l s) : Below wb.heap.size wb W := h.lg.bl
theorem PrS.at_ (h : PrS wb W l s) (k : Nat) {g : Nat} {t : TypeId} {cs : Array Value} (hk : l[k]? = some (g, t, cs)) : Blk W g t cs := h.lg.at_ k hk
theorem PrS.below (h : PrS wb W l s) (hb : Below W.heap.size W W') : PrS wb W' l s := ⟨h.lg.below hb, h.bd.below hb⟩
theorem PrS.new {g : Nat} {t : TypeId} {cs : Array Value} (h : PrS wb W l s) (zg : g = W.heap.size) (zm : Mv W.heap.size W W') (zb : Blk W' g t cs) : PrS wb W' ((g, t, cs) :: l) s :=
  ⟨h.lg.new zg zm zb, h.bd.below (below_mv (Below.refl _ _) zm (Nat.le_refl _) (Nat.le_refl _))⟩
theorem PrS.upd {g : Nat} {t t' : TypeId} {cs cs' : Array Value} (h : PrS wb W ((g, t, cs) :: l) s) (hm : Mv g W W') (zb : Blk W' g t' cs') (ht : t ≠ 5 := by decide) (hn : t ≠ 148 := by decide) : PrS wb W' ((g, t', cs') :: l) s :=
  ⟨h.lg.upd hm zb, h.bd.mv hm (h.at_ 0 rfl) ht hn⟩
theorem PrS.drop {p : Nat × TypeId × Array Value} (h : PrS wb W (p :: l) s) : PrS wb W l s := ⟨h.lg.drop, h.bd⟩
theorem PrS.app {A : Option Addr} {n c : Nat} {X : List ByteArray} (h : PrS wb W l s) (ho : OS W wb.heap.size A n c X) (hg : W.grownBy W' (Value.slice A n c).ownBlock) (ht : ∀ p ∈ l, 9 ≠ p.2.1) : PrS wb W' l s :=
  ⟨h.lg.grown hg (fun q hq => (ho.lt q hq).1) (fun p hp e => ho.ne_blk (h.lg.ld.all p hp) (ht p hp) e), h.bd.grown ho hg⟩
theorem PrS.wr {t : ByteArray} (h : PrS wb W l s) (hb : BD W' wb.heap.size t) (hbl : Below wb.heap.size W W') (hk : Lib.OthersKept 5 (some wb.heap.size) W W') (ht : ∀ p ∈ l, p.2.1 ≠ 5 ∧ p.2.1 ≠ 148) : PrS wb W' l t :=
  ⟨h.lg.kept h.bd hk hbl (Nat.le_refl _) ht, hb⟩
end
theorem alloc_bld (w : World) : (Instr.alloc 148 true (.tuple #[])).run Tryz.prog w = .ok (.pointer (some ⟨w.heap.size, 0, none⟩)) (w.alloc (.cells #[.pointer none, .slice none 0 0] 148)) := by kernel_rfl
theorem PrS.start {w w' : World} (zm : Mv w.heap.size w w') (zb : Blk w' w.heap.size 148 #[.pointer none, .slice none 0 0]) : PrS w w' [] ⟨#[]⟩ :=
  ⟨(Lg.nil w).below (below_mv (Below.refl _ _) zm (Nat.le_refl _) (Nat.le_refl _)), BD.new zb⟩
end Go.Proofs.YtbaojmfkjpnfhaaGreatDoor
namespace Go.Proofs.YtbaojmfkjpnfhaaGreatDoor
set_option linter.unusedSimpArgs false
open Go.RowKit
set_option linter.unusedVariables false
theorem SS.take20 {w : World} {A : Option Addr} {n : Nat} {l : List ByteArray} (h : SS w A n l) : SS w A (min (n : Int) 20).toNat (l.take 20) := by
  have h2 := h.take (m := (min (n : Int) 20).toNat) (by omega); rcases Nat.le_total n 20 with h0 | h0
  · rw [List.take_of_length_le (by rw [h.1]; omega)] at h2; rw [List.take_of_length_le (by rw [h.1]; omega)]; exact h2
  · rwa [show (min (n : Int) 20).toNat = 20 by omega] at h2 ⊢
theorem OS.drop0 {w : World} {base : Nat} {A : Option Addr} {n c : Nat} {l : List ByteArray} (h : OS w base A n c l) : A = dropA A 0 := by
  rcases h.2 with ⟨h0, _⟩ | ⟨g, cap, cur, e1, _⟩
  · injection h0 with h0 _ _
    subst h0; rfl
  · injection e1 with e1 _ _
    subst e1; rfl
def lenOf : Value → Nat
  | .slice _ n _ => n
  | _ => 0
theorem ne_str_reg : 9 ≠ 33 := by decide
set_option maxHeartbeats 6400000 in
set_option maxRecDepth 100000 in
theorem crPrint_any (o : SpO) (T : Option Addr) (n c : Nat) (L : List RgV) (w : World) (hM : SpM w o) (hF : SpF o) (hT : TbM w T n c L) :
    Calls Tryz.prog 43 #[.agg #[.slice o.A1 o.n1 o.c1, .slice o.A2 o.n2 o.c2, .slice o.A3 o.n3 o.c3, .slice o.A4 o.n4 o.c4], .slice T n c] w fun e w' => e = .returned (.tuple #[.string (printX o L), .int .i64 (printE o L)]) ∧ Below w.heap.size w w' := by
  have HE : Sl (printE o L = if specE o = 0 then (if 500 < n then 3 else fstE (frmK o L) n 0) else specE o) := ⟨by rw [← hT.row.len]; rfl⟩; have HPX : Sl (printX o L = if printE o L = 0 then prtX o L else ⟨#[]⟩) := ⟨rfl⟩; obtain ⟨r, hr⟩ : ∃ r, printE o L = r := ⟨_, rfl⟩; rw [hr] at HE HPX ⊢; have HM : Sl _ := ⟨hM⟩; have HF : Sl _ := ⟨hF⟩; have HT : Sl _ := ⟨hT⟩; have HD : Sl (Lg w w []) := ⟨Lg.nil w⟩; have HSC : Sl _ := ⟨fun (W : World) (hW : Below w.heap.size w W) => speccheck_any o W (hM.below hW) hF⟩; obtain ⟨s, hs⟩ : ∃ s, specE o = s := ⟨_, rfl⟩; have HS0 : Sl _ := ⟨hs⟩; unfold SpecR at HSC; rw [hs] at HE HSC; have hcap := hT.cap; unfold maxLen at hcap; have HCAP : Sl _ := ⟨hcap⟩; clear hM hF hT hr hs hcap; go_enter Tryz.func43, Tryz.ntmps43
  go_upto_region 1 with ((with_reducible show wpList _ _ _ _ _ _); first
    | (refine wpList_box_new 2 rfl rfl 27 (.tmp 0) rfl #[.slice o.A1 o.n1 o.c1, .slice o.A2 o.n2 o.c2, .slice o.A3 o.n3 o.c3, .slice o.A4 o.n4 o.c4] rfl (fun _ => by kernel_rfl) ?_; rintro ws gs zg zm zs zb; replace HD : Sl _ := ⟨HD.out.new zg zm zb⟩; clear zg zm zs zb))
  have s0 := (HD.out.at_ 0 rfl).cell 0; have s1 := (HD.out.at_ 0 rfl).cell 1; have s2 := (HD.out.at_ 0 rfl).cell 2; have s3 := (HD.out.at_ 0 rfl).cell 3; simp at s0 s1 s2 s3; go_wp2_with fail; refine (HSC.out _ HD.out.bl).mono ?_; rintro e w1 ⟨⟨a1, a2, a3, rfl⟩, hb⟩; replace HD : Sl _ := ⟨HD.out.below hb⟩; clear HSC hb s0 s1 s2 s3
  go_upto_region 2 with ((with_reducible show wpList _ _ _ _ _ _); first
    | (refine wpList_alloc_new 6 rfl rfl 80 rfl #[.int .i64 0, .int .i64 0, .int .i64 0] alloc_fault ?_; rintro w2 gf zg zm zs zb; replace HD : Sl _ := ⟨HD.out.new zg zm zb⟩; clear zg zm zs zb)
    | (refine wpList_store_whole rfl 80 (.tmp 6) (.tmp 23) rfl gf #[.int .i64 a1, .int .i64 a2, .int .i64 a3] rfl rfl 80 _ (HD.out.at_ 0 rfl) rfl (by kernel_rfl) (by simp [Value.oneCell']) ?_; rintro w3 zm zs zb; replace HD : Sl _ := ⟨HD.out.upd zm zb⟩; clear zm zs zb))
  replace HD : Sl _ := ⟨HD.out.drop⟩
  by_cases hs0 : s = 0
  · subst hs0; rw [if_pos rfl] at HE
    by_cases h500 : 500 < n
    · have q1 : decide ((500 : Int) < (n : Int)) = true := decide_eq_true (by omega); have q2 : (500 : Int) < (n : Int) := (by omega); have HR : Sl (r = 3) := ⟨by rw [HE.out, if_pos h500]⟩; have HX : Sl (printX o L = ⟨#[]⟩) := ⟨by rw [HPX.out, if_neg (by rw [HR.out]; decide)]⟩; clear h500; go_wp2_with fail; go_ret2; exact ⟨by rw [HR.out, HX.out]; rfl, HD.out.bl⟩
    · have q1 : decide ((500 : Int) < (n : Int)) = false := decide_eq_false (by omega); have q2 : ¬ (500 : Int) < (n : Int) := (by omega); rw [if_neg h500] at HE; have HN5 : Sl (n ≤ 500) := ⟨by omega⟩; clear h500; have s0 := (HD.out.at_ 0 rfl).cell 0; have s1 := (HD.out.at_ 0 rfl).cell 1; have s2 := (HD.out.at_ 0 rfl).cell 2; have s3 := (HD.out.at_ 0 rfl).cell 3; simp at s0 s1 s2 s3; go_wp2_with fail; refine (names_any o _ (HM.out.below HD.out.bl) HF.out HS0.out).mono ?_; rintro e wb ⟨⟨A, cA, B, cB, rfl, z1, z2⟩, hb⟩; replace HD : Sl _ := ⟨HD.out.below hb⟩; have HN3 : Sl _ := ⟨z1⟩; have HN4 : Sl _ := ⟨z2⟩; clear hb s0 s1 s2 s3 q1 q2 z1 z2; go_wp2_with ((with_reducible show wpList _ _ _ _ _ _); (refine wpList_alloc_new 10 rfl rfl 148 rfl #[.pointer none, .slice none 0 0] alloc_bld ?_; rintro wv b zg zm zs zb; subst zg; have HS : Sl _ := ⟨HD.out⟩; have HP : Sl _ := ⟨PrS.start zm zb⟩; clear zm zs zb)); clear HD; have HPA : Sl (w.heap.size ≤ wb.heap.size) := ⟨HS.out.bl.size⟩; have HSZ : Sl _ := ⟨frmN_size HS0.out⟩; have HBD : Sl _ := ⟨specE_bd HS0.out⟩
      go_loopw [38] (fun s38 wr => ∃ (k : Nat) (s : ByteArray), k ≤ n ∧ s38 = .int .i64 k ∧ Sl (PrS wb wr [] s ∧ s = prtX o (L.take k) ∧ s.size ≤ 10000 * k) ∧ Sl (fstE (frmK o L) (n - k) k = r)) (fun s38 _ => n - (RowKit.intOf s38).toNat)
      case atStart => exact ⟨0, _, Nat.zero_le _, rfl, ⟨HP.out, rfl, Nat.zero_le _⟩, ⟨HE.out.symm⟩⟩
      case round =>
        clear HP HE; obtain ⟨k, s, hk, rfl, HK, HKE⟩ := hrel; have HD : Sl _ := ⟨HK.out.1⟩; have HTX : Sl _ := ⟨HK.out.2⟩; clear HK
        by_cases hkn : k < n
        · have hkI : decide ((k : Int) < (n : Int)) = true := decide_eq_true (by omega); have hkI2 : (k : Int) < (n : Int) := (by omega); have hk5 : (k : Int) ≤ 500 := (by have := HN5.out; omega); have hn5 : (n : Int) ≤ 500 := (by have := HN5.out; omega); have HST : Sl (r = if frmK o L k = 0 then fstE (frmK o L) (n - (k + 1)) (k + 1) else frmK o L k) := ⟨by rw [← HKE.out, show n - k = (n - (k + 1)) + 1 by omega]; rfl⟩; have HWW : Sl (∀ W, Below wb.heap.size wb W → Below w.heap.size w W) := ⟨fun W hW => HS.out.bl.trans (hW.mono HPA.out)⟩; obtain ⟨gb, oo, x, hA, hgb, hx, x0, x1⟩ := (HT.out.below (HWW.out _ HD.out.bl)).at_ hkn; have HFR : Sl (frmK o L k = regE o x) := ⟨by unfold frmK; rw [hx]; rfl⟩; have HXN : Sl (prtX o (L.take (k + 1)) = s ++ frmX o x) := ⟨by rw [prtX_succ hx, ← HTX.out.1]⟩; have HXM : Sl _ := ⟨HT.out.all x (List.mem_of_getElem? hx)⟩; have HRG : Sl _ := ⟨fun (W : World) (hW : Below w.heap.size w W) => registration_any o x W ((HT.out.all x (List.mem_of_getElem? hx)).below hW) HF.out⟩; obtain ⟨e1, he1⟩ : ∃ e1, regE o x = e1 := ⟨_, rfl⟩; have HE1 : Sl _ := ⟨he1⟩; rw [he1] at HFR HRG; rw [hA]; have HA : Sl _ := ⟨hA⟩; clear hA hx he1 HKE
          go_upto_region 11 with ((with_reducible show wpList _ _ _ _ _ _); first
            | (refine wpList_alloc_new 12 rfl rfl 33 rfl #[.slice none 0 0, .slice none 0 0] alloc_reg ?_; rintro w4 gx zg zm zs zb; replace HD : Sl _ := ⟨HD.out.new zg zm zb⟩; clear zg zm zs zb)
            | (refine wpList_store_whole rfl 33 (.tmp 12) (.tmp 41) rfl gx #[.slice x.A x.n x.c, .slice x.B x.m x.d] rfl rfl 33 _ (HD.out.at_ 0 rfl) rfl (by kernel_rfl) (by simp [Value.oneCell']) ?_; rintro w5 zm zs zb; replace HD : Sl _ := ⟨HD.out.upd zm zb⟩; clear zm zs zb))
          have HS2 : Sl _ := ⟨HS.out.below HD.out.bl⟩; have s0 := (HS2.out.at_ 0 rfl).cell 0; have s1 := (HS2.out.at_ 0 rfl).cell 1; have s2 := (HS2.out.at_ 0 rfl).cell 2; have s3 := (HS2.out.at_ 0 rfl).cell 3; have y0 := (HD.out.at_ 0 rfl).cell 0; have y1 := (HD.out.at_ 0 rfl).cell 1; simp at s0 s1 s2 s3 y0 y1; clear x0 x1; go_wp2_with fail; refine (HRG.out _ (HWW.out _ HD.out.bl)).mono ?_; rintro e w6 ⟨rfl, hb⟩; replace HD : Sl _ := ⟨HD.out.below hb⟩; clear HRG hb s0 s1 s2 s3 y0 y1 HS2
          by_cases he0 : e1 = 0
          · subst he0; have HFN : Sl (fstE (frmK o L) (n - (k + 1)) (k + 1) = r) := ⟨by rw [HST.out, if_pos HFR.out]⟩; have hr1 := regE_ok HE1.out; have HR1 : Sl _ := ⟨hr1.1⟩; have HR2 : Sl _ := ⟨hr1.2⟩
            have HLN : Sl (x.n ≤ 80 ∧ x.m ≤ 24) := ⟨by
              have l1 := drwE_len hr1.1; have l2 := drwE_len hr1.2; have := HXM.out.s.1; have := HXM.out.c.1; have := HBD.out
              omega⟩
            have y0 := (HD.out.at_ 0 rfl).cell 0; simp at y0; clear HST hr1 HFR HE1; have HXL : Sl (x.l.length = x.n ∧ x.k.length = x.m) := ⟨HXM.out.s.1, HXM.out.c.1⟩; go_wp2_with fail; clear y0; obtain ⟨XC, hXC⟩ : ∃ XC, (#[.slice x.A x.n x.c, .slice x.B x.m x.d] : Array Value) = XC := ⟨_, rfl⟩; have HXC : Sl _ := ⟨hXC⟩; rw [hXC] at HD; clear hXC; obtain ⟨FL, hFL⟩ : ∃ FL, x.l.map (fun i => (snm o)[i.toNat]?.getD ⟨#[]⟩) = FL := ⟨_, rfl⟩; have HFL : Sl _ := ⟨hFL⟩; have HFLN : Sl (FL.length = x.n) := ⟨by rw [← hFL, List.length_map]; exact HXL.out.1⟩; clear hFL
            go_loopw [14, 51] (fun s14 s51 wr => ∃ (j : Nat) (A' : Option Addr) (c' : Nat), j ≤ x.n ∧ s14 = .slice A' j c' ∧ s51 = .int .i64 j ∧ Sl (PrS wb wr [(gx, 33, XC)] s ∧ OS wr wb.heap.size A' j c' (FL.take j))) (fun _ s51 _ => x.n - (RowKit.intOf s51).toNat)
            case atStart => exact ⟨0, _, _, Nat.zero_le _, rfl, rfl, ⟨HD.out, OS.nil _ _⟩⟩
            case round =>
              clear HD ; obtain ⟨j, A1, c1, hj, rfl, rfl, HK⟩ := hrel; have HD : Sl _ := ⟨HK.out.1⟩; have HO : Sl _ := ⟨HK.out.2⟩; clear HK; have hxb : (x.n : Int) ≤ 80 := (by have := HLN.out; omega)
              by_cases hjn : j < x.n
              · have hjI : decide ((j : Int) < (x.n : Int)) = true := decide_eq_true (by omega); have hjI2 : (j : Int) < (x.n : Int) := (by omega); obtain ⟨ad, hA2, hab, k1⟩ := (HXM.out.s.below (HWW.out _ HD.out.bl)).cell (j := j) hjn; have hz := (drwE_ok HR1.out (k := j) (by rw [HXL.out.1]; exact hjn)).1
                have HTK : Sl (FL.take (j + 1) = FL.take j ++ [(snm o)[(gt x.l j).toNat]?.getD ⟨#[]⟩]) := ⟨by
                  rw [List.take_add_one, ← HFL.out, List.getElem?_map, List.getElem?_eq_getElem (by rw [HXL.out.1]; exact hjn)]; rw [show gt x.l j = x.l[j]'(by rw [HXL.out.1]; exact hjn) by rw [gt, List.getElem?_eq_getElem (by rw [HXL.out.1]; exact hjn)]; rfl]
                  rfl⟩
                obtain ⟨z, hzz⟩ : ∃ z, gt x.l j = z := ⟨_, rfl⟩; rw [hzz] at hz HTK k1; clear hzz; obtain ⟨zn, rfl⟩ := Int.eq_ofNat_of_zero_le hz.1; have hzI0 : (0 : Int) ≤ (zn : Int) := hz.1; have hzI : (zn : Int) < (o.n3 : Int) := hz.2; rw [Int.toNat_natCast] at HTK; obtain ⟨g3, hA3, _, hg3, hc3⟩ := (HN3.out.below HD.out.bl).at_ (show 0 < o.n3 by omega); have k3 := hc3 zn (by omega); obtain ⟨nm, hnm⟩ : ∃ nm, (snm o)[zn]?.getD ⟨#[]⟩ = nm := ⟨_, rfl⟩; rw [hnm] at k3 HTK; rw [hA2, hA3]; clear hA2 hA3 hz hc3 hnm; have HLJ : Sl (j + 1 ≤ 1000000) := ⟨by have := HLN.out; omega⟩; go_wp2_with (at_builtin; go_loud (refine wpList_append_os rfl (.tmp 55) (.tmp 60) rfl wb.heap.size A1 j c1 (FL.take j) rfl (HO.out.alloc _) (some ⟨wr.heap.size, 0, none⟩) 1 1 [nm] rfl (SS.made _ _ _) HLJ.out (Nat.le_trans HD.out.bl.size (by simp)) ?_); rintro A2' c2' w2 zo zg zt; have HZ : Sl _ := ⟨And.intro zo zg⟩; clear zo zg zt); have hD2 : PrS wb w2 [(gx, 33, XC)] s := (HD.out.below ((Below.refl _ _).alloc (Nat.le_refl _) _)).app (HO.out.alloc _) HZ.out.2 (by intro q hq; simp only [List.mem_cons, List.not_mem_nil, or_false] at hq; subst hq; exact ne_str_reg); exact ⟨⟨j + 1, A2', c2', by omega, rfl, by go_num, ⟨hD2, by rw [HTK.out]; exact HZ.out.1⟩⟩, by simp [RowKit.intOf]; omega⟩
              · obtain rfl : j = x.n := (by omega); rw [show FL.take x.n = FL from List.take_of_length_le (Nat.le_of_eq HFLN.out)] at HO; clear hj hjn; have y1 := (HD.out.at_ 0 rfl).cell 1; rw [← HXC.out] at y1; simp at y1; go_wp2_with fail; clear y1; obtain ⟨FK, hFK⟩ : ∃ FK, x.k.map (fun i => (cnm o)[i.toNat]?.getD ⟨#[]⟩) = FK := ⟨_, rfl⟩; have HFK : Sl _ := ⟨hFK⟩; have HFKN : Sl (FK.length = x.m) := ⟨by rw [← hFK, List.length_map]; exact HXL.out.2⟩; clear hFK
                go_loopw [14, 66] (fun s14 s66 wr => ∃ (j : Nat) (A' : Option Addr) (c' : Nat), j ≤ x.m ∧ s14 = .slice A' (x.n + j) c' ∧ s66 = .int .i64 j ∧ Sl (PrS wb wr [(gx, 33, XC)] s ∧ OS wr wb.heap.size A' (x.n + j) c' (FL ++ FK.take j))) (fun _ s66 _ => x.m - (RowKit.intOf s66).toNat)
                case atStart => exact ⟨0, _, _, Nat.zero_le _, rfl, rfl, ⟨HD.out, by rw [List.take_zero, List.append_nil]; exact HO.out⟩⟩
                case round =>
                  clear HD HO; obtain ⟨j, A2, c2, hj, rfl, rfl, HK⟩ := hrel; have HD : Sl _ := ⟨HK.out.1⟩; have HO : Sl _ := ⟨HK.out.2⟩; clear HK; have hxb : (x.m : Int) ≤ 80 := (by have := HLN.out; omega)
                  by_cases hjn : j < x.m
                  · have hjI : decide ((j : Int) < (x.m : Int)) = true := decide_eq_true (by omega); have hjI2 : (j : Int) < (x.m : Int) := (by omega); obtain ⟨ad, hA2, hab, k1⟩ := (HXM.out.c.below (HWW.out _ HD.out.bl)).cell (j := j) hjn; have hz := (drwE_ok HR2.out (k := j) (by rw [HXL.out.2]; exact hjn)).1
                    have HTK : Sl (FK.take (j + 1) = FK.take j ++ [(cnm o)[(gt x.k j).toNat]?.getD ⟨#[]⟩]) := ⟨by
                      rw [List.take_add_one, ← HFK.out, List.getElem?_map, List.getElem?_eq_getElem (by rw [HXL.out.2]; exact hjn)]; rw [show gt x.k j = x.k[j]'(by rw [HXL.out.2]; exact hjn) by rw [gt, List.getElem?_eq_getElem (by rw [HXL.out.2]; exact hjn)]; rfl]
                      rfl⟩
                    obtain ⟨z, hzz⟩ : ∃ z, gt x.k j = z := ⟨_, rfl⟩; rw [hzz] at hz HTK k1; clear hzz; obtain ⟨zn, rfl⟩ := Int.eq_ofNat_of_zero_le hz.1; have hzI0 : (0 : Int) ≤ (zn : Int) := hz.1; have hzI : (zn : Int) < (o.n4 : Int) := hz.2; rw [Int.toNat_natCast] at HTK; obtain ⟨g3, hA3, _, hg3, hc3⟩ := (HN4.out.below HD.out.bl).at_ (show 0 < o.n4 by omega); have k3 := hc3 zn (by omega); obtain ⟨nm, hnm⟩ : ∃ nm, (cnm o)[zn]?.getD ⟨#[]⟩ = nm := ⟨_, rfl⟩; rw [hnm] at k3 HTK; rw [hA2, hA3]; clear hA2 hA3 hz hc3 hnm; have HLJ : Sl ((x.n + j) + 1 ≤ 1000000) := ⟨by have := HLN.out; omega⟩; go_wp2_with (at_builtin; go_loud (refine wpList_append_os rfl (.tmp 70) (.tmp 75) rfl wb.heap.size A2 (x.n + j) c2 (FL ++ FK.take j) rfl (HO.out.alloc _) (some ⟨wr.heap.size, 0, none⟩) 1 1 [nm] rfl (SS.made _ _ _) HLJ.out (Nat.le_trans HD.out.bl.size (by simp)) ?_); rintro A2' c2' w2 zo zg zt; have HZ : Sl _ := ⟨And.intro zo zg⟩; clear zo zg zt); have hD2 : PrS wb w2 [(gx, 33, XC)] s := (HD.out.below ((Below.refl _ _).alloc (Nat.le_refl _) _)).app (HO.out.alloc _) HZ.out.2 (by intro q hq; simp only [List.mem_cons, List.not_mem_nil, or_false] at hq; subst hq; exact ne_str_reg); exact ⟨⟨j + 1, A2', c2', by omega, rfl, by go_num, ⟨hD2, by rw [HTK.out, ← List.append_assoc]; exact HZ.out.1⟩⟩, by simp [RowKit.intOf]; omega⟩
                  · obtain rfl : j = x.m := (by omega); rw [show FK.take x.m = FK from List.take_of_length_le (Nat.le_of_eq HFKN.out)] at HO; clear hj hjn; have HFN2 : Sl (frmN o x = FL ++ FK) := ⟨by rw [← HFL.out, ← HFK.out]; rfl⟩; obtain ⟨X, hX⟩ : ∃ X, FL ++ FK = X := ⟨_, rfl⟩; obtain ⟨N, hN⟩ : ∃ N, x.n + x.m = N := ⟨_, rfl⟩; rw [hX] at HO HFN2; rw [hN] at HO ⊢; have HN1 : Sl (N ≤ 104) := ⟨by have := HLN.out; omega⟩; have HXS : Sl (∀ y ∈ X, y.size ≤ 33) := ⟨by rw [← HFN2.out]; exact HSZ.out x⟩; replace HD : Sl _ := ⟨HD.out.drop⟩; have hN104 : (N : Int) ≤ 104 := (by have := HN1.out; omega); have HAA : Sl (X.length = N ∧ N ≤ c2 ∧ c2 ≤ maxLen) := ⟨HO.out.len, HO.out.cap⟩; have hNc : (N : Int) ≤ (c2 : Int) := (by have := HAA.out; omega); have hNc2 : N ≤ c2 := HAA.out.2.1; have hc2m : (c2 : Int) ≤ 9223372036854775807 := (by have := HAA.out.2.2; unfold maxLen at this; omega); clear hX hN HFL HFK HFLN HFKN HXC; have HM20 : Sl ((min (N : Int) 20).toNat ≤ 20) := ⟨by omega⟩; obtain ⟨m, hm⟩ : ∃ m, (min (N : Int) 20).toNat = m := ⟨_, rfl⟩; have HMM : Sl _ := ⟨hm⟩; rw [hm] at HM20; go_wp2_with (at_builtin; (try rw [hm]); go_loud (refine wpList_append_os rfl (.tmp 78) (.tmp 83) rfl wb.heap.size (some ⟨wr.heap.size, 0, none⟩) 1 1 [kFr] rfl (OS.made _ _ HD.out.bl.size) A2 m c2 (X.take 20) rfl (by rw [← hm]; exact (HO.out.alloc _).ss.take20) (by have := HM20.out; omega) (Nat.le_trans HD.out.bl.size (by simp)) ?_); rintro C c9 w7 zo zg zt; have HZ : Sl _ := ⟨And.intro zo zg⟩; clear zo zg zt); replace HD : Sl _ := ⟨(HD.out.below ((Below.refl _ _).alloc (Nat.le_refl _) _)).app (OS.made _ _ HD.out.bl.size) HZ.out.2 (by intro q hq; cases hq)⟩
                    replace HO : Sl _ := ⟨(HO.out.alloc (.cells #[.string kFr] 9)).grown HZ.out.2 (fun q hq e => by
                      have h1 := (HO.out.lt q hq).2; have e2 : some wr.heap.size = some q := e; injection e2 with e2
                      omega)⟩
                    have HW0 : Sl (s ++ frmX o x = s ++ frmT (5 - 0) kFr (X.drop (20 * 0))) := ⟨by unfold frmX; rw [HFN2.out]; rfl⟩; have HC : Sl (OS w7 wb.heap.size C (1 + (min (N : Int) 20).toNat) c9 (kFr :: (X.drop (20 * 0)).take 20)) := ⟨by rw [hm]; exact HZ.out.1⟩; have hmS : Value.slice C (1 + m) c9 = .slice C (1 + (min (N : Int) 20).toNat) c9 := (by rw [hm]); rw [hmS]; have HTS : Sl (s.size ≤ 10000 * k) := ⟨HTX.out.2⟩; clear hm hmS HZ HMM HM20 HFN2
                    go_loopw [14, 19] (fun s14 s19 wr => ∃ (i M : Nat) (A4 C : Option Addr) (c4 c9 : Nat) (kw t : ByteArray), M + 20 * i = N ∧ s14 = .slice A4 M c4 ∧ s19 = .slice C (1 + (min (M : Int) 20).toNat) c9 ∧ Sl (PrS wb wr [] t ∧ OS wr wb.heap.size A2 N c2 X ∧ OS wr wb.heap.size C (1 + (min (M : Int) 20).toNat) c9 (kw :: (X.drop (20 * i)).take 20)) ∧ Sl (A4 = dropA A2 (20 * i) ∧ M ≤ c4 ∧ c4 ≤ maxLen ∧ kw.size ≤ 5 ∧ t ++ frmT (5 - i) kw (X.drop (20 * i)) = s ++ frmX o x ∧ t.size ≤ 10000 * k + 1000 * i)) (fun s14 _ _ => lenOf s14)
                    case atStart => exact ⟨0, N, _, C, c2, c9, kFr, s, by omega, rfl, rfl, ⟨HD.out, HO.out, HC.out⟩, ⟨HO.out.drop0, HAA.out.2.1, HAA.out.2.2, by decide, HW0.out.symm, by have := HTS.out; omega⟩⟩
                    case round =>
                      clear HD HO HC HW0 HTS; obtain ⟨i, M, A4, C, c4, c9, kw, t, hM, rfl, rfl, HK, HI⟩ := hrel; have HD : Sl _ := ⟨HK.out.1⟩; have HO : Sl _ := ⟨HK.out.2.1⟩; have HC : Sl _ := ⟨HK.out.2.2⟩; clear HK; have HML : Sl ((X.drop (20 * i)).length = M ∧ M + 20 * i = N) := ⟨by rw [List.length_drop, HAA.out.1]; omega, hM⟩; have HYS : Sl (∀ y ∈ X.drop (20 * i), y.size ≤ 33) := ⟨fun y hy => HXS.out y (List.mem_of_mem_drop hy)⟩; have HJS : Sl ((joinB (kw :: (X.drop (20 * i)).take 20)).size ≤ 714 ∧ (lineB kw (X.drop (20 * i))).size ≤ 1000) := ⟨join_size33 HI.out.2.2.2.1 HYS.out, lineB_size HI.out.2.2.2.1 HYS.out⟩; have HLB : Sl (lineB kw (X.drop (20 * i)) = joinB (kw :: (X.drop (20 * i)).take 20) ++ ⟨#[10]⟩) := ⟨rfl⟩; obtain ⟨jb, hjb⟩ : ∃ jb, joinB (kw :: (X.drop (20 * i)).take 20) = jb := ⟨_, rfl⟩; have HJB : Sl _ := ⟨hjb⟩; rw [hjb] at HJS HLB; clear hjb; have hM104 : (M : Int) ≤ 104 := (by have := HN1.out; omega); have HCN : Sl (1 + (min (M : Int) 20).toNat ≤ 1000000) := ⟨by omega⟩; have hjs : jb.size ≤ 714 := HJS.out.1; have h10 : (⟨#[10]⟩ : ByteArray).size = 1 := rfl
                      by_cases p20 : 20 < M
                      · have p1 : decide ((20 : Int) < (M : Int)) = true := decide_eq_true (by omega); have p2 : (20 : Int) < (M : Int) := (by omega); obtain ⟨f, hf⟩ : ∃ f, 5 - i = f + 1 := ⟨4 - i, by have := HN1.out; omega⟩; have HF1 : Sl (5 - (i + 1) = f) := ⟨by omega⟩
                        have HFT : Sl ((t ++ lineB kw (X.drop (20 * i))) ++ frmT f kMo (X.drop (20 * (i + 1))) = s ++ frmX o x) := ⟨by
                          rw [← HI.out.2.2.2.2.1, hf, frmT, if_pos (by rw [HML.out.1]; exact p20), List.drop_drop, ByteArray.append_assoc]
                          rfl⟩
                        have HCC : Sl ((M : Int) ≤ (c4 : Int) ∧ (c4 : Int) ≤ 9223372036854775807) := ⟨by have := HI.out.2.1; have := HI.out.2.2.1; unfold maxLen at this; omega⟩; clear hf hM; go_wp2_with fail; refine (join_any _ _ _ _ _ _ HC.out HCN.out (by rw [HJB.out]; omega)).mono ?_; rintro e w8 ⟨rfl, hb⟩; replace HD : Sl _ := ⟨HD.out.below hb⟩; replace HO : Sl _ := ⟨HO.out.below hb⟩; rw [HJB.out]; clear hb HC; go_wp2_with fail; rw [← HLB.out]; refine (wstr_any _ _ _ _ HD.out.bd (by have := HI.out.2.2.2.2.2; have := HJS.out.2; have := HN5.out; have := HML.out.2; have := HN1.out; omega)).mono ?_; rintro e w9 ⟨⟨v, rfl⟩, z1, z2, z3⟩; replace HO : Sl _ := ⟨HO.out.kept HD.out.bd z3⟩; replace HD : Sl _ := ⟨HD.out.wr z1 z2 z3 (by intro q hq; cases hq)⟩; clear z1 z2 z3; obtain ⟨g4, hA4, _, hg4, _⟩ := HO.out.at_ (show 0 < N by have := HML.out.2; omega); have HA4 : Sl (A4 = some ⟨g4, 20 * i, none⟩) := ⟨by rw [HI.out.1, hA4]; exact congrArg (fun z => some (⟨g4, z, none⟩ : Addr)) (Nat.zero_add _)⟩; rw [HA4.out]; have hcc1 := HCC.out.1; have hcc2 := HCC.out.2
                        have HDR : Sl (∀ W, OS W wb.heap.size A2 N c2 X → SS W (some ⟨g4, 20 * i + 20, none⟩) (M - 20) (X.drop (20 * i + 20))) := ⟨fun W h => by
                          have h1 := h.drop (i := 20 * i + 20) (by have := HML.out.2; omega); rw [hA4, show N - (20 * i + 20) = M - 20 by have := HML.out.2; omega, show dropA (some ⟨g4, 0, none⟩) (20 * i + 20) = some ⟨g4, 20 * i + 20, none⟩ from congrArg (fun z => some (⟨g4, z, none⟩ : Addr)) (Nat.zero_add _)] at h1
                          exact h1⟩
                        have HDA : Sl (some ⟨g4, 20 * i + 20, none⟩ = dropA A2 (20 * (i + 1))) := ⟨by rw [hA4]; exact (congrArg (fun z => some (⟨g4, z, none⟩ : Addr)) (Nat.zero_add _)).symm⟩; clear hA4 hg4; have HM2 : Sl ((min ((M - 20 : Nat) : Int) 20).toNat ≤ 20) := ⟨by omega⟩; go_wp2_with (at_builtin; go_loud (refine wpList_append_os rfl (.tmp 94) (.tmp 99) rfl wb.heap.size (some ⟨w9.heap.size, 0, none⟩) 1 1 [kMo] rfl (OS.made _ _ HD.out.bl.size) (some ⟨g4, 20 * i + 20, none⟩) (min ((M - 20 : Nat) : Int) 20).toNat (c4 - 20) ((X.drop (20 * i + 20)).take 20) rfl (HDR.out _ (HO.out.alloc _)).take20 (by have := HM2.out; omega) (Nat.le_trans HD.out.bl.size (by simp)) ?_); rintro C2 c9' w10 zo zg zt; have HZ : Sl _ := ⟨And.intro zo zg⟩; clear zo zg zt); replace HD : Sl _ := ⟨(HD.out.below ((Below.refl _ _).alloc (Nat.le_refl _) _)).app (OS.made _ _ HD.out.bl.size) HZ.out.2 (by intro q hq; cases hq)⟩
                        replace HO : Sl _ := ⟨(HO.out.alloc (.cells #[.string kMo] 9)).grown HZ.out.2 (fun q hq e => by
                          have h1 := (HO.out.lt q hq).2; have e2 : some w9.heap.size = some q := e; injection e2 with e2
                          omega)⟩
                        refine ⟨⟨i + 1, M - 20, _, C2, c4 - 20, c9', kMo, _, by have := HML.out.2; omega, rfl, rfl, ⟨HD.out, HO.out, HZ.out.1⟩, ⟨HDA.out, by have := HI.out.2.1; omega, by have := HI.out.2.2.1; omega, by decide, by rw [HF1.out]; exact HFT.out, ?_⟩⟩, by simp [lenOf]; omega⟩; rw [ByteArray.size_append]; have := HI.out.2.2.2.2.2; have := HJS.out.2; omega
                      · have p1 : decide ((20 : Int) < (M : Int)) = false := decide_eq_false (by omega); have p2 : ¬ (20 : Int) < (M : Int) := (by omega)
                        have HFT : Sl (t ++ lineB kw (X.drop (20 * i)) = s ++ frmX o x) := ⟨by
                          rw [← HI.out.2.2.2.2.1, frmT_last (by rw [HML.out.1]; omega)]⟩
                        have HSZ2 : Sl ((s ++ frmX o x).size ≤ 10000 * (k + 1)) := ⟨by
                          rw [← HFT.out, ByteArray.size_append]; have := HI.out.2.2.2.2.2; have := HJS.out.2; have := HN1.out
                          omega⟩
                        go_wp2_with fail; refine (join_any _ _ _ _ _ _ HC.out HCN.out (by rw [HJB.out]; omega)).mono ?_; rintro e w8 ⟨rfl, hb⟩; replace HD : Sl _ := ⟨HD.out.below hb⟩; rw [HJB.out]; clear hb HC HO; go_wp2_with fail; rw [← HLB.out]; refine (wstr_any _ _ _ _ HD.out.bd (by have := HI.out.2.2.2.2.2; have := HJS.out.2; have := HN5.out; have := HML.out.2; have := HN1.out; omega)).mono ?_; rintro e w9 ⟨⟨v, rfl⟩, z1, z2, z3⟩; replace HD : Sl _ := ⟨HD.out.wr z1 z2 z3 (by intro q hq; cases hq)⟩; rw [HFT.out] at HD; clear z1 z2 z3; go_wp2_with fail; exact ⟨⟨k + 1, _, by omega, by go_num, ⟨HD.out, HXN.out.symm, HSZ2.out⟩, HFN⟩, by simp [RowKit.intOf]; omega⟩
          · have q0 : (e1 != 0) = true := (by rw [bne_iff_ne]; exact he0); have HR : Sl (r = e1) := ⟨by rw [HST.out, if_neg (by rw [HFR.out]; exact he0), HFR.out]⟩; have HX : Sl (printX o L = ⟨#[]⟩) := ⟨by rw [HPX.out, if_neg (by rw [HR.out]; exact he0)]⟩; clear he0; go_wp2_with fail
            (try simp only [Exit.inBlock, Exit.then])
            go_ret2; exact ⟨by rw [HR.out, HX.out]; rfl, HWW.out _ HD.out.bl⟩
        · obtain rfl : k = n := (by omega); have HR : Sl (r = 0) := ⟨by rw [← HKE.out, Nat.sub_self]; rfl⟩; have HX : Sl (printX o L = s) := ⟨by rw [HPX.out, if_pos HR.out, HTX.out.1, List.take_of_length_le (by rw [HT.out.row.len]; exact Nat.le_refl _)]⟩; go_wp2_with fail; refine (bstr_any _ _ _ HD.out.bd).mono ?_; rintro e w6 ⟨rfl, hb⟩; go_wp2_with fail; go_ret2; exact ⟨by rw [HR.out, HX.out]; rfl, (HS.out.bl.trans (HD.out.bl.mono HPA.out)).trans (hb.mono HPA.out)⟩
  · rw [if_neg hs0] at HE; have q0 : (s != 0) = true := (by rw [bne_iff_ne]; exact hs0); have HX : Sl (printX o L = ⟨#[]⟩) := ⟨by rw [HPX.out, if_neg (by rw [HE.out]; exact hs0)]⟩; clear hs0; go_wp2_with fail; go_ret2; exact ⟨by rw [HE.out, HX.out]; rfl, HD.out.bl⟩
end Go.Proofs.YtbaojmfkjpnfhaaGreatDoor
namespace Go.Proofs.YtbaojmfkjpnfhaaGreatDoor
set_option linter.unusedSimpArgs false
open Go.RowKit
set_option linter.unusedVariables false
theorem cbytes_eq {a b : ByteArray} (h : a.toList = b.toList) : a = b := by
  rw [Go.ByteArray.toList_eq, Go.ByteArray.toList_eq] at h; exact bytes_data h
theorem twB_mono {α : Type} {p : α → Bool} {L : List α} {k i : Nat} (h : twB p L k = true) (hk : k ≤ i) : twB p L i = true := by
  obtain ⟨y, hy, e⟩ := twB_iff.1 h; refine twB_iff.2 ⟨y, ?_, e⟩; have : L.take k = (L.take i).take k := (by rw [List.take_take, Nat.min_eq_left hk]); rw [this] at hy; exact List.mem_of_mem_take hy
theorem RowG.all_ {α : Type} {w : World} {A : Option Addr} {n sz : Nat} {f : α → List Value} {l : List α} (h : RowG w A n sz f l) (hsz : 0 < sz) (hn : 0 < n) :
    ∃ gb o, A = some ⟨gb, o, none⟩ ∧ gb < w.heap.size ∧ ∀ W, Below w.heap.size w W → ∀ k, k < n → ∃ y, l[k]? = some y ∧ W.rangeAt gb (o + k * sz) (f y) := by
  obtain ⟨gb, oo, x, hA, hgb, hx, hra⟩ := h.at_ hsz hn; refine ⟨gb, oo, hA, hgb, fun W hW k hk => ?_⟩; obtain ⟨gb2, oo2, y, hA2, _, hy, hra2⟩ := h.at_ hsz hk; rw [hA] at hA2; injection hA2 with hA2
  injection hA2 with e1 e2 _
  subst e1 e2; exact ⟨y, hy, fun j v hv => (hW.cell (p := ⟨gb, oo + k * sz + j, none⟩) hgb).trans (hra2 j v hv)⟩
theorem rnote_any (n : Int) (w : World) : Calls Tryz.prog 127 #[.int .i64 n] w fun e w' => e = .returned (.bool (decide (0 ≤ n ∧ n ≤ 127))) ∧ w' = w := by
  by_cases h : 0 ≤ n
  · have hb : decide (0 ≤ n) = true := decide_eq_true h; have HC : Sl (decide (0 ≤ n ∧ n ≤ 127) = decide (n ≤ 127)) := ⟨decide_eq_decide.2 ⟨fun h => h.2, fun h2 => ⟨h, h2⟩⟩⟩; go_enter Tryz.func127, Tryz.ntmps127; go_wp2_with fail; go_ret; exact ⟨by first | rfl | (rw [HC.out]; rfl), rfl⟩
  · have hb : decide (0 ≤ n) = false := decide_eq_false h; have HC : Sl (decide (0 ≤ n ∧ n ≤ 127) = false) := ⟨decide_eq_false fun hh => h hh.1⟩; go_enter Tryz.func127, Tryz.ntmps127; go_wp2_with fail; go_ret; exact ⟨by first | rfl | (rw [HC.out]; rfl), rfl⟩
theorem rindex_any (n m : Int) (w : World) : Calls Tryz.prog 129 #[.int .i64 n, .int .i64 m] w fun e w' => e = .returned (.bool (wiB n 0 (m - 1))) ∧ w' = w := by
  by_cases h : 0 ≤ n
  · have hb : decide (0 ≤ n) = true := decide_eq_true h; have HC : Sl (wiB n 0 (m - 1) = decide (n < m)) := ⟨by unfold wiB; rw [decide_eq_true h, Bool.true_and]; exact decide_eq_decide.2 (by omega)⟩; go_enter Tryz.func129, Tryz.ntmps129; go_wp2_with fail; go_ret; exact ⟨by first | rfl | (rw [HC.out]; rfl), rfl⟩
  · have hb : decide (0 ≤ n) = false := decide_eq_false h; have HC : Sl (wiB n 0 (m - 1) = false) := ⟨by unfold wiB; rw [decide_eq_false h, Bool.false_and]⟩; go_enter Tryz.func129, Tryz.ntmps129; go_wp2_with fail; go_ret; exact ⟨by first | rfl | (rw [HC.out]; rfl), rfl⟩
set_option maxHeartbeats 3200000 in
set_option maxRecDepth 100000 in
theorem rdivision_any (o : SpO) (i : Nat) (w : World) (hM : SpM w o) (hF : SpF o) (hi : i < o.n1) (hn : o.n1 ≤ 1000) :
    Calls Tryz.prog 79 #[.agg #[.slice o.A1 o.n1 o.c1, .slice o.A2 o.n2 o.c2, .slice o.A3 o.n3 o.c3, .slice o.A4 o.n4 o.c4], .int .i64 (i : Int)] w fun e w' => e = .returned (.int .i64 (rdvE o i)) ∧ Below w.heap.size w w' := by
  have HD : Sl (Lg w w []) := ⟨Lg.nil w⟩; obtain ⟨gb, oo, hA, hgb, hall⟩ := hM.d.all_ (by decide) (show 0 < o.n1 by omega); have HALL : Sl _ := ⟨hall⟩; have HLEN : Sl (o.ds.length = o.n1) := ⟨hM.d.len⟩; obtain ⟨x, hx, _⟩ := hall w (Below.refl _ _) i hi
  have HXI : Sl (∀ W, Below w.heap.size w W → W.rangeAt gb (oo + i * 3) x.cells) := ⟨fun W hW => by
    obtain ⟨x2, hx2, h2⟩ := HALL.out W hW i hi; rw [hx] at hx2; injection hx2 with hx2
    rw [hx2]
    exact h2⟩
  have hxF := hF.d x (List.mem_of_getElem? hx); obtain ⟨r, hr⟩ : ∃ r, rdvE o i = r := ⟨_, rfl⟩; have HE : Sl (r = if nmB x.nm = true then (if twB (fun y => decide (y.nm = x.nm)) o.ds i = true then 8 else if wiB x.lo 0 127 && wiB x.hi x.lo (min 127 (x.lo + 60)) then 0 else 7) else 6) := ⟨by rw [← hr]; unfold rdvE; rw [hx]; rfl⟩; rw [hr]; obtain ⟨nm, lo, hj⟩ := x; simp only [] at HE hxF; have HNM : Sl (nm.size ≤ maxLen) := ⟨hxF.1⟩; clear hxF; have HIN : Sl (i < o.n1 ∧ o.n1 ≤ 1000) := ⟨hi, hn⟩; have hi0 : (0 : Int) ≤ (i : Int) := (by omega); have hi1 : (i : Int) < (o.n1 : Int) := (by omega); have HSPM : Sl _ := ⟨hM⟩; clear hr hM hF hall hx hi hn; go_enter Tryz.func79, Tryz.ntmps79
  go_upto_region 1 with ((with_reducible show wpList _ _ _ _ _ _); (refine wpList_box_new 2 rfl rfl 27 (.tmp 0) rfl #[.slice o.A1 o.n1 o.c1, .slice o.A2 o.n2 o.c2, .slice o.A3 o.n3 o.c3, .slice o.A4 o.n4 o.c4] rfl (fun _ => by kernel_rfl) ?_; rintro w1 g0 zg zm zs zb; replace HD : Sl _ := ⟨HD.out.new zg zm zb⟩; clear zg zm zs zb))
  have c0 : w1.cell? ⟨g0, 0, none⟩ = some (.slice (some ⟨gb, oo, none⟩) o.n1 o.c1) := (by rw [← hA]; exact (HD.out.at_ 0 rfl).cell 0); have HA : Sl _ := ⟨hA⟩; clear hA
  go_upto_region 2 with ((with_reducible show wpList _ _ _ _ _ _); first
    | (refine wpList_load_mid rfl 93 (.tmp 10) rfl gb (oo + i * 3) rfl _ _ (HXI.out _ HD.out.bl) Tryz.underlying93 rfl (by kernel_rfl) ?_)
    | (refine wpList_alloc_new 5 rfl rfl 93 rfl #[.string ⟨#[]⟩, .int .i64 0, .int .i64 0] (fun _ => by kernel_rfl) ?_; rintro w2 g5 zg zm zs zb; replace HD : Sl _ := ⟨HD.out.new zg zm zb⟩; clear zg zm zs zb)
    | (refine wpList_store_whole rfl 93 (.tmp 5) (.tmp 11) rfl g5 #[.string nm, .int .i64 lo, .int .i64 hj] rfl rfl 93 _ (HD.out.at_ 0 rfl) rfl (by kernel_rfl) (by simp [Value.oneCell']) ?_; rintro w3 zm zs zb; replace HD : Sl _ := ⟨HD.out.upd zm zb⟩; clear zm zs zb))
  clear c0 hi0 hi1; have c1 : w3.cell? ⟨g5, 0, none⟩ = some (.string nm) := (HD.out.at_ 0 rfl).cell 0; go_wp2_with fail; refine (rname_any nm _ HNM.out).mono ?_; rintro e w4 ⟨rfl, hb4⟩; replace HD : Sl _ := ⟨HD.out.below hb4⟩; clear hb4 c1; obtain ⟨b0, hb0⟩ : ∃ b0, nmB nm = b0 := ⟨_, rfl⟩; rw [hb0] at HE ⊢; clear hb0
  cases b0 with
  | false =>
    go_wp2_with fail; go_ret; exact ⟨by rw [HE.out]; rfl, HD.out.bl⟩
  | true =>
    go_wp2_with fail
    go_loopw [6] (fun s6 wv => ∃ k : Nat, k ≤ i ∧ s6 = .int .i64 k ∧ Sl (Lg w wv [(g5, 93, #[.string nm, .int .i64 lo, .int .i64 hj]), (g0, 27, #[.slice o.A1 o.n1 o.c1, .slice o.A2 o.n2 o.c2, .slice o.A3 o.n3 o.c3, .slice o.A4 o.n4 o.c4])]) ∧ Sl (twB (fun y => decide (y.nm = nm)) o.ds k = false)) (fun s6 _ => i - (RowKit.intOf s6).toNat)
    case atStart => exact ⟨0, Nat.zero_le _, rfl, HD, ⟨rfl⟩⟩
    case round =>
      clear HD; obtain ⟨k, hk, rfl, HD, HTW⟩ := hrel; have hi9 : (i : Int) ≤ 1000 := (by have := HIN.out; omega)
      by_cases hki : k < i
      · have hkI : decide ((k : Int) < (i : Int)) = true := decide_eq_true (by omega); have hkI2 : (k : Int) < (i : Int) := (by omega); have hk0 : (0 : Int) ≤ (k : Int) := (by omega); have hk1 : (k : Int) < (o.n1 : Int) := (by have := HIN.out; omega); obtain ⟨y, hy, hra2⟩ := HALL.out _ HD.out.bl k (by have := HIN.out; omega); have HSU := twB_succ (p := fun y => decide (y.nm = nm)) hy; rw [HTW.out, Bool.false_or] at HSU; have HS2 : Sl _ := ⟨HSU⟩; have c0 : wr.cell? ⟨g0, 0, none⟩ = some (.slice (some ⟨gb, oo, none⟩) o.n1 o.c1) := (by rw [← HA.out]; exact (HD.out.at_ 1 rfl).cell 0); have c1 : wr.cell? ⟨g5, 0, none⟩ = some (.string nm) := (HD.out.at_ 0 rfl).cell 0; have q1 : wr.cell? ⟨gb, oo + k * 3, none⟩ = some (.string y.nm) := hra2 0 _ rfl; clear HSU hra2 hy
        by_cases heq : y.nm = nm
        · have HT : Sl (twB (fun y => decide (y.nm = nm)) o.ds i = true) := ⟨twB_mono (by rw [HS2.out]; exact decide_eq_true heq) (by omega : k + 1 ≤ i)⟩; have hq : (y.nm.toList == nm.toList) = true := (by rw [heq]; simp); clear heq; go_wp2_with fail
          go_quiet (fail)
          go_wp2_with fail; go_ret; exact ⟨by rw [HE.out, HT.out]; rfl, below_drewN HD.out.bl nq⟩
        · have HT : Sl (twB (fun y => decide (y.nm = nm)) o.ds (k + 1) = false) := ⟨by rw [HS2.out]; exact decide_eq_false heq⟩; have hq : (y.nm.toList == nm.toList) = false := (by rw [beq_eq_false_iff_ne]; exact fun h => heq (cbytes_eq h)); clear heq; go_wp2_with fail
          go_quiet (fail)
          go_wp2_with fail; exact ⟨⟨k + 1, by omega, by go_num, ⟨HD.out.below (below_drewN (Below.refl _ _) nq)⟩, HT⟩, by simp [RowKit.intOf]; omega⟩
      · obtain rfl : i = k := (by omega); have hkI : decide ((i : Int) < (i : Int)) = false := (by simp); rw [HTW.out] at HE; simp only [if_true, Bool.false_eq_true, if_false] at HE; clear HTW hki hk; have d1 : wr.cell? ⟨g5, 1, none⟩ = some (.int .i64 lo) := (HD.out.at_ 0 rfl).cell 1; have d2 : wr.cell? ⟨g5, 2, none⟩ = some (.int .i64 hj) := (HD.out.at_ 0 rfl).cell 2; go_wp2_with fail; refine (rnote_any lo _).mono ?_; rintro e w5 ⟨rfl, rfl⟩
        by_cases p1 : 0 ≤ lo ∧ lo ≤ 127
        · rw [decide_eq_true p1]; go_wp2_with fail; refine (rnote_any hj _).mono ?_; rintro e w5 ⟨rfl, rfl⟩
          by_cases p2 : 0 ≤ hj ∧ hj ≤ 127
          · rw [decide_eq_true p2]; have p10 := p1.1; have p11 := p1.2; have p20 := p2.1; have p21 := p2.2
            by_cases p3 : hj < lo
            · have p3d : decide (hj < lo) = true := decide_eq_true p3; have HV : Sl (r = 7) := ⟨by rw [HE.out, if_neg]; unfold wiB; simp; omega⟩; clear HE; go_wp2_with fail; go_ret; exact ⟨by first | (rw [HV.out]; rfl) | rw [HV.out], HD.out.bl⟩
            · have p3d : decide (hj < lo) = false := decide_eq_false p3; have hw1 : IntKind.i64.wrap (hj - lo) = hj - lo := (by rw [IntKind.wrap_i64]; omega); have hw2 : IntKind.i64.wrap (hj - lo + 1) = hj - lo + 1 := (by rw [IntKind.wrap_i64]; omega)
              by_cases p4 : 61 < hj - lo + 1
              · have p4d : decide (61 < hj - lo + 1) = true := decide_eq_true p4; have HV : Sl (r = 7) := ⟨by rw [HE.out, if_neg]; unfold wiB; simp; omega⟩; clear HE; go_wp2_with fail; go_ret; exact ⟨by first | (rw [HV.out]; rfl) | rw [HV.out], HD.out.bl⟩
              · have p4d : decide (61 < hj - lo + 1) = false := decide_eq_false p4; have HV : Sl (r = 0) := ⟨by rw [HE.out, if_pos]; unfold wiB; simp; omega⟩; clear HE; go_wp2_with fail; go_ret; exact ⟨by first | (rw [HV.out]; rfl) | rw [HV.out], HD.out.bl⟩
          · rw [decide_eq_false p2]; have HV : Sl (r = 7) := ⟨by rw [HE.out, if_neg]; unfold wiB; simp; omega⟩; clear HE; go_wp2_with fail; go_ret; exact ⟨by first | (rw [HV.out]; rfl) | rw [HV.out], HD.out.bl⟩
        · rw [decide_eq_false p1]; have HV : Sl (r = 7) := ⟨by rw [HE.out, if_neg]; unfold wiB; simp; omega⟩; clear HE; go_wp2_with fail; go_ret; exact ⟨by first | (rw [HV.out]; rfl) | rw [HV.out], HD.out.bl⟩
set_option maxHeartbeats 3200000 in
set_option maxRecDepth 100000 in
theorem rrank_any (o : SpO) (i : Nat) (w : World) (hM : SpM w o) (hF : SpF o) (hi : i < o.n2) (hn : o.n2 ≤ 1000) :
    Calls Tryz.prog 80 #[.agg #[.slice o.A1 o.n1 o.c1, .slice o.A2 o.n2 o.c2, .slice o.A3 o.n3 o.c3, .slice o.A4 o.n4 o.c4], .int .i64 (i : Int)] w fun e w' => e = .returned (.int .i64 (rrkE o i)) ∧ Below w.heap.size w w' := by
  have HD : Sl (Lg w w []) := ⟨Lg.nil w⟩; obtain ⟨gb, oo, hA, hgb, hall⟩ := hM.r.all_ (by decide) (show 0 < o.n2 by omega); have HALL : Sl _ := ⟨hall⟩; have HLEN : Sl (o.rs.length = o.n2) := ⟨hM.r.len⟩; obtain ⟨x, hx, _⟩ := hall w (Below.refl _ _) i hi
  have HXI : Sl (∀ W, Below w.heap.size w W → W.rangeAt gb (oo + i * 6) x.cells) := ⟨fun W hW => by
    obtain ⟨x2, hx2, h2⟩ := HALL.out W hW i hi; rw [hx] at hx2; injection hx2 with hx2
    rw [hx2]
    exact h2⟩
  have hxF := hF.r x (List.mem_of_getElem? hx); obtain ⟨r, hr⟩ : ∃ r, rrkE o i = r := ⟨_, rfl⟩; have HE : Sl (r = if nmB x.nm = true then (if twB (fun y => decide (y.nm = x.nm)) o.rs i = true then 8 else if wiB x.kd 1 4 && decide (vF x.fn x.fd) then (if wiB x.ct 1 97 && wiB x.lo 0 (128 - x.ct) then 0 else 7) else 2) else 6) := ⟨by rw [← hr]; unfold rrkE; rw [hx]; rfl⟩; rw [hr]; obtain ⟨nm, kd, fn, fd, lo, ct⟩ := x; simp only [] at HE hxF; have HNM : Sl (nm.size ≤ maxLen) := ⟨hxF.1⟩; clear hxF; have HIN : Sl (i < o.n2 ∧ o.n2 ≤ 1000) := ⟨hi, hn⟩; have hi0 : (0 : Int) ≤ (i : Int) := (by omega); have hi1 : (i : Int) < (o.n2 : Int) := (by omega); have HSPM : Sl _ := ⟨hM⟩; clear hr hM hF hall hx hi hn; go_enter Tryz.func80, Tryz.ntmps80
  go_upto_region 1 with ((with_reducible show wpList _ _ _ _ _ _); (refine wpList_box_new 2 rfl rfl 27 (.tmp 0) rfl #[.slice o.A1 o.n1 o.c1, .slice o.A2 o.n2 o.c2, .slice o.A3 o.n3 o.c3, .slice o.A4 o.n4 o.c4] rfl (fun _ => by kernel_rfl) ?_; rintro w1 g0 zg zm zs zb; replace HD : Sl _ := ⟨HD.out.new zg zm zb⟩; clear zg zm zs zb))
  have c0 : w1.cell? ⟨g0, 1, none⟩ = some (.slice (some ⟨gb, oo, none⟩) o.n2 o.c2) := (by rw [← hA]; exact (HD.out.at_ 0 rfl).cell 1); have HA : Sl _ := ⟨hA⟩; clear hA
  go_upto_region 2 with ((with_reducible show wpList _ _ _ _ _ _); first
    | (refine wpList_load_mid rfl 97 (.tmp 10) rfl gb (oo + i * 6) rfl _ _ (HXI.out _ HD.out.bl) Tryz.underlying97 rfl (by kernel_rfl) ?_)
    | (refine wpList_alloc_new 5 rfl rfl 97 rfl #[.string ⟨#[]⟩, .int .i64 0, .int .i64 0, .int .i64 0, .int .i64 0, .int .i64 0] (fun _ => by kernel_rfl) ?_; rintro w2 g5 zg zm zs zb; replace HD : Sl _ := ⟨HD.out.new zg zm zb⟩; clear zg zm zs zb)
    | (refine wpList_store_whole rfl 97 (.tmp 5) (.tmp 11) rfl g5 #[.string nm, .int .i64 kd, .int .i64 fn, .int .i64 fd, .int .i64 lo, .int .i64 ct] rfl rfl 97 _ (HD.out.at_ 0 rfl) rfl (by kernel_rfl) (by simp [Value.oneCell']) ?_; rintro w3 zm zs zb; replace HD : Sl _ := ⟨HD.out.upd zm zb⟩; clear zm zs zb))
  clear c0 hi0 hi1; have c1 : w3.cell? ⟨g5, 0, none⟩ = some (.string nm) := (HD.out.at_ 0 rfl).cell 0; go_wp2_with fail; refine (rname_any nm _ HNM.out).mono ?_; rintro e w4 ⟨rfl, hb4⟩; replace HD : Sl _ := ⟨HD.out.below hb4⟩; clear hb4 c1; obtain ⟨b0, hb0⟩ : ∃ b0, nmB nm = b0 := ⟨_, rfl⟩; rw [hb0] at HE ⊢; clear hb0
  cases b0 with
  | false =>
    go_wp2_with fail; go_ret; exact ⟨by rw [HE.out]; rfl, HD.out.bl⟩
  | true =>
    go_wp2_with fail
    go_loopw [6] (fun s6 wv => ∃ k : Nat, k ≤ i ∧ s6 = .int .i64 k ∧ Sl (Lg w wv [(g5, 97, #[.string nm, .int .i64 kd, .int .i64 fn, .int .i64 fd, .int .i64 lo, .int .i64 ct]), (g0, 27, #[.slice o.A1 o.n1 o.c1, .slice o.A2 o.n2 o.c2, .slice o.A3 o.n3 o.c3, .slice o.A4 o.n4 o.c4])]) ∧ Sl (twB (fun y => decide (y.nm = nm)) o.rs k = false)) (fun s6 _ => i - (RowKit.intOf s6).toNat)
    case atStart => exact ⟨0, Nat.zero_le _, rfl, HD, ⟨rfl⟩⟩
    case round =>
      clear HD; obtain ⟨k, hk, rfl, HD, HTW⟩ := hrel; have hi9 : (i : Int) ≤ 1000 := (by have := HIN.out; omega)
      by_cases hki : k < i
      · have hkI : decide ((k : Int) < (i : Int)) = true := decide_eq_true (by omega); have hkI2 : (k : Int) < (i : Int) := (by omega); have hk0 : (0 : Int) ≤ (k : Int) := (by omega); have hk1 : (k : Int) < (o.n2 : Int) := (by have := HIN.out; omega); obtain ⟨y, hy, hra2⟩ := HALL.out _ HD.out.bl k (by have := HIN.out; omega); have HSU := twB_succ (p := fun y => decide (y.nm = nm)) hy; rw [HTW.out, Bool.false_or] at HSU; have HS2 : Sl _ := ⟨HSU⟩; have c0 : wr.cell? ⟨g0, 1, none⟩ = some (.slice (some ⟨gb, oo, none⟩) o.n2 o.c2) := (by rw [← HA.out]; exact (HD.out.at_ 1 rfl).cell 1); have c1 : wr.cell? ⟨g5, 0, none⟩ = some (.string nm) := (HD.out.at_ 0 rfl).cell 0; have q1 : wr.cell? ⟨gb, oo + k * 6, none⟩ = some (.string y.nm) := hra2 0 _ rfl; clear HSU hra2 hy
        by_cases heq : y.nm = nm
        · have HT : Sl (twB (fun y => decide (y.nm = nm)) o.rs i = true) := ⟨twB_mono (by rw [HS2.out]; exact decide_eq_true heq) (by omega : k + 1 ≤ i)⟩; have hq : (y.nm.toList == nm.toList) = true := (by rw [heq]; simp); clear heq; go_wp2_with fail
          go_quiet (fail)
          go_wp2_with fail; go_ret; exact ⟨by rw [HE.out, HT.out]; rfl, below_drewN HD.out.bl nq⟩
        · have HT : Sl (twB (fun y => decide (y.nm = nm)) o.rs (k + 1) = false) := ⟨by rw [HS2.out]; exact decide_eq_false heq⟩; have hq : (y.nm.toList == nm.toList) = false := (by rw [beq_eq_false_iff_ne]; exact fun h => heq (cbytes_eq h)); clear heq; go_wp2_with fail
          go_quiet (fail)
          go_wp2_with fail; exact ⟨⟨k + 1, by omega, by go_num, ⟨HD.out.below (below_drewN (Below.refl _ _) nq)⟩, HT⟩, by simp [RowKit.intOf]; omega⟩
      · obtain rfl : i = k := (by omega); have hkI : decide ((i : Int) < (i : Int)) = false := (by simp); rw [HTW.out] at HE; simp only [if_true, Bool.false_eq_true, if_false] at HE; clear HTW hki hk; have d1 : wr.cell? ⟨g5, 1, none⟩ = some (.int .i64 kd) := (HD.out.at_ 0 rfl).cell 1; have d2 : wr.cell? ⟨g5, 2, none⟩ = some (.int .i64 fn) := (HD.out.at_ 0 rfl).cell 2; have d3 : wr.cell? ⟨g5, 3, none⟩ = some (.int .i64 fd) := (HD.out.at_ 0 rfl).cell 3
        by_cases p1 : kd < 1
        · have p1d : decide (kd < 1) = true := decide_eq_true p1; have p1e : decide (kd ≤ 0) = true := decide_eq_true (by omega); have HV : Sl (r = 2) := ⟨by rw [HE.out, if_neg]; unfold wiB; simp; omega⟩; clear HE; go_wp2_with fail; go_ret; exact ⟨by first | (rw [HV.out]; rfl) | rw [HV.out], HD.out.bl⟩
        · have p1d : decide (kd < 1) = false := decide_eq_false p1
          by_cases p2 : 4 < kd
          · have p2d : decide (4 < kd) = true := decide_eq_true p2; have HV : Sl (r = 2) := ⟨by rw [HE.out, if_neg]; unfold wiB; simp; omega⟩; clear HE; go_wp2_with fail; go_ret; exact ⟨by first | (rw [HV.out]; rfl) | rw [HV.out], HD.out.bl⟩
          · have p2d : decide (4 < kd) = false := decide_eq_false p2; go_wp2_with fail; refine (rvalid_any fn fd _).mono ?_; rintro e w5 ⟨rfl, hb5⟩; replace HD : Sl _ := ⟨HD.out.below hb5⟩; clear hb5 d1 d2 d3 p1d p2d; obtain ⟨b2, hb2⟩ : ∃ b2, decide (vF fn fd) = b2 := ⟨_, rfl⟩; rw [hb2] at HE ⊢; clear hb2
            cases b2 with
            | false =>
              have HV : Sl (r = 2) := ⟨by rw [HE.out, if_neg]; simp⟩; clear HE; go_wp2_with fail; go_ret; exact ⟨by first | (rw [HV.out]; rfl) | rw [HV.out], HD.out.bl⟩
            | true =>
              have HKF : Sl ((wiB kd 1 4 && true) = true) := ⟨by unfold wiB; simp; omega⟩; have d4 : w5.cell? ⟨g5, 4, none⟩ = some (.int .i64 lo) := (HD.out.at_ 0 rfl).cell 4; have d5 : w5.cell? ⟨g5, 5, none⟩ = some (.int .i64 ct) := (HD.out.at_ 0 rfl).cell 5; clear p1 p2
              by_cases p1 : ct < 1
              · have p1d : decide (ct < 1) = true := decide_eq_true p1; have p1e : decide (ct ≤ 0) = true := decide_eq_true (by omega); have HV : Sl (r = 7) := ⟨by rw [HE.out, if_pos HKF.out, if_neg]; unfold wiB; simp; omega⟩; clear HE; go_wp2_with fail; go_ret; exact ⟨by first | (rw [HV.out]; rfl) | rw [HV.out], HD.out.bl⟩
              · have p1d : decide (ct < 1) = false := decide_eq_false p1
                by_cases p2 : 97 < ct
                · have p2d : decide (97 < ct) = true := decide_eq_true p2; have HV : Sl (r = 7) := ⟨by rw [HE.out, if_pos HKF.out, if_neg]; unfold wiB; simp; omega⟩; clear HE; go_wp2_with fail; go_ret; exact ⟨by first | (rw [HV.out]; rfl) | rw [HV.out], HD.out.bl⟩
                · have p2d : decide (97 < ct) = false := decide_eq_false p2; go_wp2_with fail; refine (rnote_any lo _).mono ?_; rintro e w6 ⟨rfl, rfl⟩
                  by_cases p3 : 0 ≤ lo ∧ lo ≤ 127
                  · rw [decide_eq_true p3]; have hw1 : IntKind.i64.wrap (lo + ct) = lo + ct := (by rw [IntKind.wrap_i64]; omega); have hw2 : IntKind.i64.wrap (lo + ct - 1) = lo + ct - 1 := (by rw [IntKind.wrap_i64]; omega); go_wp2_with fail; refine (rnote_any (lo + ct - 1) _).mono ?_; rintro e w6 ⟨rfl, rfl⟩
                    by_cases p4 : 0 ≤ lo + ct - 1 ∧ lo + ct - 1 ≤ 127
                    · rw [decide_eq_true p4]; have HV : Sl (r = 0) := ⟨by rw [HE.out, if_pos HKF.out, if_pos]; unfold wiB; simp; omega⟩; clear HE; go_wp2_with fail; go_ret; exact ⟨by first | (rw [HV.out]; rfl) | rw [HV.out], HD.out.bl⟩
                    · rw [decide_eq_false p4]; have HV : Sl (r = 7) := ⟨by rw [HE.out, if_pos HKF.out, if_neg]; unfold wiB; simp; omega⟩; clear HE; go_wp2_with fail; go_ret; exact ⟨by first | (rw [HV.out]; rfl) | rw [HV.out], HD.out.bl⟩
                  · rw [decide_eq_false p3]; have HV : Sl (r = 7) := ⟨by rw [HE.out, if_pos HKF.out, if_neg]; unfold wiB; simp; omega⟩; clear HE; go_wp2_with fail; go_ret; exact ⟨by first | (rw [HV.out]; rfl) | rw [HV.out], HD.out.bl⟩
set_option maxHeartbeats 3200000 in
set_option maxRecDepth 100000 in
theorem rcoupler_any (o : SpO) (i : Nat) (w : World) (hM : SpM w o) (hF : SpF o) (hi : i < o.n4) (hn : o.n4 ≤ 1000) :
    Calls Tryz.prog 83 #[.agg #[.slice o.A1 o.n1 o.c1, .slice o.A2 o.n2 o.c2, .slice o.A3 o.n3 o.c3, .slice o.A4 o.n4 o.c4], .int .i64 (i : Int)] w fun e w' => e = .returned (.int .i64 (rcpE o i)) ∧ Below w.heap.size w w' := by
  have HD : Sl (Lg w w []) := ⟨Lg.nil w⟩; obtain ⟨gb, oo, hA, hgb, hall⟩ := hM.c.all_ (by decide) (show 0 < o.n4 by omega); have HALL : Sl _ := ⟨hall⟩; have HLEN : Sl (o.cs.length = o.n4) := ⟨hM.c.len⟩; obtain ⟨x, hx, _⟩ := hall w (Below.refl _ _) i hi
  have HXI : Sl (∀ W, Below w.heap.size w W → W.rangeAt gb (oo + i * 6) x.cells) := ⟨fun W hW => by
    obtain ⟨x2, hx2, h2⟩ := HALL.out W hW i hi; rw [hx] at hx2; injection hx2 with hx2
    rw [hx2]
    exact h2⟩
  have hxF := hF.c x (List.mem_of_getElem? hx); obtain ⟨r, hr⟩ : ∃ r, rcpE o i = r := ⟨_, rfl⟩; have HE : Sl (r = if nmB x.nm = true then (if twB (fun y => decide (y.nm = x.nm)) o.cs i = true then 8 else if wiB x.fr 0 ((o.n1 : Int) - 1) && wiB x.tt 0 ((o.n1 : Int) - 1) then (if ((x.sh == -12) || ((x.sh == 12) || ((x.sh == 0) && (x.fr != x.tt)))) && (wiB x.on 0 2 && !(x.th && (x.on != 0))) then 0 else 2) else 4) else 6) := ⟨by rw [← hr]; unfold rcpE; rw [hx]; rfl⟩; rw [hr]; obtain ⟨nm, fr, tt, sh, on, th⟩ := x; simp only [] at HE hxF; have HNM : Sl (nm.size ≤ maxLen) := ⟨hxF.1⟩; clear hxF; have HIN : Sl (i < o.n4 ∧ o.n4 ≤ 1000) := ⟨hi, hn⟩; have hi0 : (0 : Int) ≤ (i : Int) := (by omega); have hi1 : (i : Int) < (o.n4 : Int) := (by omega); have HSPM : Sl _ := ⟨hM⟩; clear hr hM hF hall hx hi hn; go_enter Tryz.func83, Tryz.ntmps83
  go_upto_region 1 with ((with_reducible show wpList _ _ _ _ _ _); (refine wpList_box_new 2 rfl rfl 27 (.tmp 0) rfl #[.slice o.A1 o.n1 o.c1, .slice o.A2 o.n2 o.c2, .slice o.A3 o.n3 o.c3, .slice o.A4 o.n4 o.c4] rfl (fun _ => by kernel_rfl) ?_; rintro w1 g0 zg zm zs zb; replace HD : Sl _ := ⟨HD.out.new zg zm zb⟩; clear zg zm zs zb))
  have c0 : w1.cell? ⟨g0, 3, none⟩ = some (.slice (some ⟨gb, oo, none⟩) o.n4 o.c4) := (by rw [← hA]; exact (HD.out.at_ 0 rfl).cell 3); have HA : Sl _ := ⟨hA⟩; clear hA
  go_upto_region 2 with ((with_reducible show wpList _ _ _ _ _ _); first
    | (refine wpList_load_mid rfl 102 (.tmp 10) rfl gb (oo + i * 6) rfl _ _ (HXI.out _ HD.out.bl) Tryz.underlying102 rfl (by kernel_rfl) ?_)
    | (refine wpList_alloc_new 5 rfl rfl 102 rfl #[.string ⟨#[]⟩, .int .i64 0, .int .i64 0, .int .i64 0, .int .i64 0, .bool false] (fun _ => by kernel_rfl) ?_; rintro w2 g5 zg zm zs zb; replace HD : Sl _ := ⟨HD.out.new zg zm zb⟩; clear zg zm zs zb)
    | (refine wpList_store_whole rfl 102 (.tmp 5) (.tmp 11) rfl g5 #[.string nm, .int .i64 fr, .int .i64 tt, .int .i64 sh, .int .i64 on, .bool th] rfl rfl 102 _ (HD.out.at_ 0 rfl) rfl (by kernel_rfl) (by simp [Value.oneCell']) ?_; rintro w3 zm zs zb; replace HD : Sl _ := ⟨HD.out.upd zm zb⟩; clear zm zs zb))
  clear c0 hi0 hi1; have c1 : w3.cell? ⟨g5, 0, none⟩ = some (.string nm) := (HD.out.at_ 0 rfl).cell 0; go_wp2_with fail; refine (rname_any nm _ HNM.out).mono ?_; rintro e w4 ⟨rfl, hb4⟩; replace HD : Sl _ := ⟨HD.out.below hb4⟩; clear hb4 c1; obtain ⟨b0, hb0⟩ : ∃ b0, nmB nm = b0 := ⟨_, rfl⟩; rw [hb0] at HE ⊢; clear hb0
  cases b0 with
  | false =>
    go_wp2_with fail; go_ret; exact ⟨by rw [HE.out]; rfl, HD.out.bl⟩
  | true =>
    go_wp2_with fail
    go_loopw [6] (fun s6 wv => ∃ k : Nat, k ≤ i ∧ s6 = .int .i64 k ∧ Sl (Lg w wv [(g5, 102, #[.string nm, .int .i64 fr, .int .i64 tt, .int .i64 sh, .int .i64 on, .bool th]), (g0, 27, #[.slice o.A1 o.n1 o.c1, .slice o.A2 o.n2 o.c2, .slice o.A3 o.n3 o.c3, .slice o.A4 o.n4 o.c4])]) ∧ Sl (twB (fun y => decide (y.nm = nm)) o.cs k = false)) (fun s6 _ => i - (RowKit.intOf s6).toNat)
    case atStart => exact ⟨0, Nat.zero_le _, rfl, HD, ⟨rfl⟩⟩
    case round =>
      clear HD; obtain ⟨k, hk, rfl, HD, HTW⟩ := hrel; have hi9 : (i : Int) ≤ 1000 := (by have := HIN.out; omega)
      by_cases hki : k < i
      · have hkI : decide ((k : Int) < (i : Int)) = true := decide_eq_true (by omega); have hkI2 : (k : Int) < (i : Int) := (by omega); have hk0 : (0 : Int) ≤ (k : Int) := (by omega); have hk1 : (k : Int) < (o.n4 : Int) := (by have := HIN.out; omega); obtain ⟨y, hy, hra2⟩ := HALL.out _ HD.out.bl k (by have := HIN.out; omega); have HSU := twB_succ (p := fun y => decide (y.nm = nm)) hy; rw [HTW.out, Bool.false_or] at HSU; have HS2 : Sl _ := ⟨HSU⟩; have c0 : wr.cell? ⟨g0, 3, none⟩ = some (.slice (some ⟨gb, oo, none⟩) o.n4 o.c4) := (by rw [← HA.out]; exact (HD.out.at_ 1 rfl).cell 3); have c1 : wr.cell? ⟨g5, 0, none⟩ = some (.string nm) := (HD.out.at_ 0 rfl).cell 0; have q1 : wr.cell? ⟨gb, oo + k * 6, none⟩ = some (.string y.nm) := hra2 0 _ rfl; clear HSU hra2 hy
        by_cases heq : y.nm = nm
        · have HT : Sl (twB (fun y => decide (y.nm = nm)) o.cs i = true) := ⟨twB_mono (by rw [HS2.out]; exact decide_eq_true heq) (by omega : k + 1 ≤ i)⟩; have hq : (y.nm.toList == nm.toList) = true := (by rw [heq]; simp); clear heq; go_wp2_with fail
          go_quiet (fail)
          go_wp2_with fail; go_ret; exact ⟨by rw [HE.out, HT.out]; rfl, below_drewN HD.out.bl nq⟩
        · have HT : Sl (twB (fun y => decide (y.nm = nm)) o.cs (k + 1) = false) := ⟨by rw [HS2.out]; exact decide_eq_false heq⟩; have hq : (y.nm.toList == nm.toList) = false := (by rw [beq_eq_false_iff_ne]; exact fun h => heq (cbytes_eq h)); clear heq; go_wp2_with fail
          go_quiet (fail)
          go_wp2_with fail; exact ⟨⟨k + 1, by omega, by go_num, ⟨HD.out.below (below_drewN (Below.refl _ _) nq)⟩, HT⟩, by simp [RowKit.intOf]; omega⟩
      · obtain rfl : i = k := (by omega); have hkI : decide ((i : Int) < (i : Int)) = false := (by simp); rw [HTW.out] at HE; simp only [if_true, Bool.false_eq_true, if_false] at HE; clear HTW hki hk; have d1 : wr.cell? ⟨g5, 1, none⟩ = some (.int .i64 fr) := (HD.out.at_ 0 rfl).cell 1; have d2 : wr.cell? ⟨g5, 2, none⟩ = some (.int .i64 tt) := (HD.out.at_ 0 rfl).cell 2; have e1 : wr.cell? ⟨g0, 0, none⟩ = some (.slice o.A1 o.n1 o.c1) := (HD.out.at_ 1 rfl).cell 0; go_wp2_with fail; refine (rindex_any fr (o.n1 : Int) _).mono ?_; rintro e w5 ⟨rfl, rfl⟩; obtain ⟨b1, hb1⟩ : ∃ b1, wiB fr 0 ((o.n1 : Int) - 1) = b1 := ⟨_, rfl⟩; rw [hb1] at HE ⊢; clear hb1
        cases b1 with
        | false =>
          have HV : Sl (r = 4) := ⟨by rw [HE.out, if_neg]; simp⟩; clear HE; go_wp2_with fail; go_ret; exact ⟨by first | (rw [HV.out]; rfl) | rw [HV.out], HD.out.bl⟩
        | true =>
          go_wp2_with fail; refine (rindex_any tt (o.n1 : Int) _).mono ?_; rintro e w6 ⟨rfl, rfl⟩; obtain ⟨b2, hb2⟩ : ∃ b2, wiB tt 0 ((o.n1 : Int) - 1) = b2 := ⟨_, rfl⟩; rw [hb2] at HE ⊢; clear hb2
          cases b2 with
          | false =>
            have HV : Sl (r = 4) := ⟨by rw [HE.out, if_neg]; simp⟩; clear HE; go_wp2_with fail; go_ret; exact ⟨by first | (rw [HV.out]; rfl) | rw [HV.out], HD.out.bl⟩
          | true =>
            rw [Bool.true_and, if_pos rfl] at HE; have d3 : w6.cell? ⟨g5, 3, none⟩ = some (.int .i64 sh) := (HD.out.at_ 0 rfl).cell 3; have d4 : w6.cell? ⟨g5, 4, none⟩ = some (.int .i64 on) := (HD.out.at_ 0 rfl).cell 4; have d5 : w6.cell? ⟨g5, 5, none⟩ = some (.bool th) := (HD.out.at_ 0 rfl).cell 5
            by_cases m1 : sh = -12
            · subst m1
              by_cases q1 : on < 0
              · have q1d : decide (on < 0) = true := decide_eq_true q1; have HV : Sl (r = 2) := ⟨by rw [HE.out, if_neg]; unfold wiB; simp; omega⟩; clear HE; go_wp2_with fail; go_ret; exact ⟨by first | (rw [HV.out]; rfl) | rw [HV.out], HD.out.bl⟩
              · have q1d : decide (on < 0) = false := decide_eq_false q1
                by_cases q2 : 2 < on
                · have q2d : decide (2 < on) = true := decide_eq_true q2; have HV : Sl (r = 2) := ⟨by rw [HE.out, if_neg]; unfold wiB; simp; omega⟩; clear HE; go_wp2_with fail; go_ret; exact ⟨by first | (rw [HV.out]; rfl) | rw [HV.out], HD.out.bl⟩
                · have q2d : decide (2 < on) = false := decide_eq_false q2
                  cases th with
                  | true =>
                    by_cases q3 : on = 0
                    · subst q3
                      by_cases q4 : fr = tt
                      · have q4b : (fr == tt) = true := (by simpa using q4); have HV : Sl (r = 0) := ⟨by rw [HE.out, if_pos]; unfold wiB; simp; try omega⟩; clear HE; go_wp2_with fail; go_ret; exact ⟨by first | (rw [HV.out]; rfl) | rw [HV.out], HD.out.bl⟩
                      · have q4b : (fr == tt) = false := (by simpa using q4); have HV : Sl (r = 0) := ⟨by rw [HE.out, if_pos]; unfold wiB; simp; try omega⟩; clear HE; go_wp2_with fail; go_ret; exact ⟨by first | (rw [HV.out]; rfl) | rw [HV.out], HD.out.bl⟩
                    · have q3n : (on != 0) = true := (by simpa using q3); have q3b : (on == 0) = false := (by simpa using q3); have HV : Sl (r = 2) := ⟨by rw [HE.out, if_neg]; rw [q3n]; simp⟩; clear HE; go_wp2_with fail; go_ret; exact ⟨by first | (rw [HV.out]; rfl) | rw [HV.out], HD.out.bl⟩
                  | false =>
                    by_cases q4 : fr = tt
                    · have q4b : (fr == tt) = true := (by simpa using q4); have HV : Sl (r = 0) := ⟨by rw [HE.out, if_pos]; unfold wiB; simp; try omega⟩; clear HE; go_wp2_with fail; go_ret; exact ⟨by first | (rw [HV.out]; rfl) | rw [HV.out], HD.out.bl⟩
                    · have q4b : (fr == tt) = false := (by simpa using q4); have HV : Sl (r = 0) := ⟨by rw [HE.out, if_pos]; unfold wiB; simp; try omega⟩; clear HE; go_wp2_with fail; go_ret; exact ⟨by first | (rw [HV.out]; rfl) | rw [HV.out], HD.out.bl⟩
            · by_cases m2 : sh = 12
              · subst m2
                by_cases q1 : on < 0
                · have q1d : decide (on < 0) = true := decide_eq_true q1; have HV : Sl (r = 2) := ⟨by rw [HE.out, if_neg]; unfold wiB; simp; omega⟩; clear HE; go_wp2_with fail; go_ret; exact ⟨by first | (rw [HV.out]; rfl) | rw [HV.out], HD.out.bl⟩
                · have q1d : decide (on < 0) = false := decide_eq_false q1
                  by_cases q2 : 2 < on
                  · have q2d : decide (2 < on) = true := decide_eq_true q2; have HV : Sl (r = 2) := ⟨by rw [HE.out, if_neg]; unfold wiB; simp; omega⟩; clear HE; go_wp2_with fail; go_ret; exact ⟨by first | (rw [HV.out]; rfl) | rw [HV.out], HD.out.bl⟩
                  · have q2d : decide (2 < on) = false := decide_eq_false q2
                    cases th with
                    | true =>
                      by_cases q3 : on = 0
                      · subst q3
                        by_cases q4 : fr = tt
                        · have q4b : (fr == tt) = true := (by simpa using q4); have HV : Sl (r = 0) := ⟨by rw [HE.out, if_pos]; unfold wiB; simp; try omega⟩; clear HE; go_wp2_with fail; go_ret; exact ⟨by first | (rw [HV.out]; rfl) | rw [HV.out], HD.out.bl⟩
                        · have q4b : (fr == tt) = false := (by simpa using q4); have HV : Sl (r = 0) := ⟨by rw [HE.out, if_pos]; unfold wiB; simp; try omega⟩; clear HE; go_wp2_with fail; go_ret; exact ⟨by first | (rw [HV.out]; rfl) | rw [HV.out], HD.out.bl⟩
                      · have q3n : (on != 0) = true := (by simpa using q3); have q3b : (on == 0) = false := (by simpa using q3); have HV : Sl (r = 2) := ⟨by rw [HE.out, if_neg]; rw [q3n]; simp⟩; clear HE; go_wp2_with fail; go_ret; exact ⟨by first | (rw [HV.out]; rfl) | rw [HV.out], HD.out.bl⟩
                    | false =>
                      by_cases q4 : fr = tt
                      · have q4b : (fr == tt) = true := (by simpa using q4); have HV : Sl (r = 0) := ⟨by rw [HE.out, if_pos]; unfold wiB; simp; try omega⟩; clear HE; go_wp2_with fail; go_ret; exact ⟨by first | (rw [HV.out]; rfl) | rw [HV.out], HD.out.bl⟩
                      · have q4b : (fr == tt) = false := (by simpa using q4); have HV : Sl (r = 0) := ⟨by rw [HE.out, if_pos]; unfold wiB; simp; try omega⟩; clear HE; go_wp2_with fail; go_ret; exact ⟨by first | (rw [HV.out]; rfl) | rw [HV.out], HD.out.bl⟩
              · by_cases m3 : sh = 0
                · subst m3
                  by_cases q1 : on < 0
                  · have q1d : decide (on < 0) = true := decide_eq_true q1; have HV : Sl (r = 2) := ⟨by rw [HE.out, if_neg]; unfold wiB; simp; omega⟩; clear HE; go_wp2_with fail; go_ret; exact ⟨by first | (rw [HV.out]; rfl) | rw [HV.out], HD.out.bl⟩
                  · have q1d : decide (on < 0) = false := decide_eq_false q1
                    by_cases q2 : 2 < on
                    · have q2d : decide (2 < on) = true := decide_eq_true q2; have HV : Sl (r = 2) := ⟨by rw [HE.out, if_neg]; unfold wiB; simp; omega⟩; clear HE; go_wp2_with fail; go_ret; exact ⟨by first | (rw [HV.out]; rfl) | rw [HV.out], HD.out.bl⟩
                    · have q2d : decide (2 < on) = false := decide_eq_false q2
                      cases th with
                      | true =>
                        by_cases q3 : on = 0
                        · subst q3
                          by_cases q4 : fr = tt
                          · have q4b : (fr == tt) = true := (by simpa using q4); have q4n : (fr != tt) = false := (by simpa using q4); have HV : Sl (r = 2) := ⟨by rw [HE.out, if_neg]; rw [q4n]; simp⟩; clear HE; go_wp2_with fail; go_ret; exact ⟨by first | (rw [HV.out]; rfl) | rw [HV.out], HD.out.bl⟩
                          · have q4b : (fr == tt) = false := (by simpa using q4); have q4n : (fr != tt) = true := (by simpa using q4); have HV : Sl (r = 0) := ⟨by rw [HE.out, if_pos]; rw [q4n]; unfold wiB; simp; try omega⟩; clear HE; go_wp2_with fail; go_ret; exact ⟨by first | (rw [HV.out]; rfl) | rw [HV.out], HD.out.bl⟩
                        · have q3n : (on != 0) = true := (by simpa using q3); have q3b : (on == 0) = false := (by simpa using q3); have HV : Sl (r = 2) := ⟨by rw [HE.out, if_neg]; rw [q3n]; simp⟩; clear HE; go_wp2_with fail; go_ret; exact ⟨by first | (rw [HV.out]; rfl) | rw [HV.out], HD.out.bl⟩
                      | false =>
                        by_cases q4 : fr = tt
                        · have q4b : (fr == tt) = true := (by simpa using q4); have q4n : (fr != tt) = false := (by simpa using q4); have HV : Sl (r = 2) := ⟨by rw [HE.out, if_neg]; rw [q4n]; simp⟩; clear HE; go_wp2_with fail; go_ret; exact ⟨by first | (rw [HV.out]; rfl) | rw [HV.out], HD.out.bl⟩
                        · have q4b : (fr == tt) = false := (by simpa using q4); have q4n : (fr != tt) = true := (by simpa using q4); have HV : Sl (r = 0) := ⟨by rw [HE.out, if_pos]; rw [q4n]; unfold wiB; simp; try omega⟩; clear HE; go_wp2_with fail; go_ret; exact ⟨by first | (rw [HV.out]; rfl) | rw [HV.out], HD.out.bl⟩
                · have m1n : (sh != -12) = true := (by simpa using m1); have m2n : (sh != 12) = true := (by simpa using m2); have m3n : (sh != 0) = true := (by simpa using m3); have m1b : (sh == -12) = false := (by simpa using m1); have m2b : (sh == 12) = false := (by simpa using m2); have m3b : (sh == 0) = false := (by simpa using m3); have HV : Sl (r = 2) := ⟨by rw [HE.out, if_neg]; rw [m1b, m2b, m3b]; simp⟩; clear HE; go_wp2_with fail; go_ret; exact ⟨by first | (rw [HV.out]; rfl) | rw [HV.out], HD.out.bl⟩
end Go.Proofs.YtbaojmfkjpnfhaaGreatDoor
namespace Go.Proofs.YtbaojmfkjpnfhaaGreatDoor
set_option linter.unusedSimpArgs false
open Go.RowKit
set_option linter.unusedVariables false
theorem rhas_any2 (x : RnV) (n : Int) (w : World) (hb : (0 ≤ x.lo ∧ x.lo ≤ 1000) ∧ 0 ≤ x.ct ∧ x.ct ≤ 1000) : Calls Tryz.prog 130 #[.agg #[.string x.nm, .int .i64 x.kd, .int .i64 x.fn, .int .i64 x.fd, .int .i64 x.lo, .int .i64 x.ct], .int .i64 n] w fun e w' => e = .returned (.bool (decide (x.lo ≤ n ∧ n < x.lo + x.ct))) ∧ Below w.heap.size w w' := by
  obtain ⟨nm, kd, fn, fd, lo, ct⟩ := x; simp only [] at hb ⊢; have hbl := (Below.refl w.heap.size w).alloc (Nat.le_refl _) (.cells #[.string nm, .int .i64 kd, .int .i64 fn, .int .i64 fd, .int .i64 lo, .int .i64 ct] 97); have X0 := Blk.new w 97 #[.string nm, .int .i64 kd, .int .i64 fn, .int .i64 fd, .int .i64 lo, .int .i64 ct]; have d3 : (w.alloc (.cells #[.string nm, .int .i64 kd, .int .i64 fn, .int .i64 fd, .int .i64 lo, .int .i64 ct] 97)).cell? ⟨w.heap.size, 4, none⟩ = some (.int .i64 lo) := X0.cell 4; have d4 : (w.alloc (.cells #[.string nm, .int .i64 kd, .int .i64 fn, .int .i64 fd, .int .i64 lo, .int .i64 ct] 97)).cell? ⟨w.heap.size, 5, none⟩ = some (.int .i64 ct) := X0.cell 5; have hw : IntKind.i64.wrap (lo + ct) = lo + ct := (by rw [IntKind.wrap_i64]; omega); have HBL : Sl _ := ⟨hbl⟩; clear hbl X0 hb
  by_cases h : lo ≤ n
  · have h1 : decide (lo ≤ n) = true := decide_eq_true h; have HC : Sl (decide (lo ≤ n ∧ n < lo + ct) = decide (n < lo + ct)) := ⟨decide_eq_decide.2 ⟨fun h => h.2, fun h2 => ⟨h, h2⟩⟩⟩; go_enter Tryz.func130, Tryz.ntmps130; go_wp2_with fail; go_ret; exact ⟨by first | rfl | (rw [HC.out]; rfl), HBL.out⟩
  · have h1 : decide (lo ≤ n) = false := decide_eq_false h; have HC : Sl (decide (lo ≤ n ∧ n < lo + ct) = false) := ⟨decide_eq_false fun hh => h hh.1⟩; go_enter Tryz.func130, Tryz.ntmps130; go_wp2_with fail; go_ret; exact ⟨by first | rfl | (rw [HC.out]; rfl), HBL.out⟩
set_option maxHeartbeats 3200000 in
set_option maxRecDepth 100000 in
theorem rstop_any (o : SpO) (i : Nat) (w : World) (hM : SpM w o) (hF : SpF o) (hi : i < o.n3) (hn : o.n3 ≤ 1000) (hn1 : o.n1 ≤ 1000) :
    Calls Tryz.prog 81 #[.agg #[.slice o.A1 o.n1 o.c1, .slice o.A2 o.n2 o.c2, .slice o.A3 o.n3 o.c3, .slice o.A4 o.n4 o.c4], .int .i64 (i : Int)] w fun e w' => e = .returned (.int .i64 (rstE o i)) ∧ Below w.heap.size w w' := by
  have HD : Sl (Lg w w []) := ⟨Lg.nil w⟩; obtain ⟨gb, oo, hA, hgb, hall⟩ := hM.s.all_ (by decide) (show 0 < o.n3 by omega); have HALL : Sl _ := ⟨hall⟩; obtain ⟨x, hx, _⟩ := hall w (Below.refl _ _) i hi
  have HXI : Sl (∀ W, Below w.heap.size w W → W.rangeAt gb (oo + i * 5) x.cells) := ⟨fun W hW => by
    obtain ⟨x2, hx2, h2⟩ := HALL.out W hW i hi; rw [hx] at hx2; injection hx2 with hx2
    rw [hx2]
    exact h2⟩
  have hxF := hF.s x (List.mem_of_getElem? hx); obtain ⟨r, hr⟩ : ∃ r, rstE o i = r := ⟨_, rfl⟩; have HE : Sl (r = if nmB x.nm = false then 6 else if wiB x.dv 0 ((o.n1 : Int) - 1) = false then 4 else if twB (fun y => decide (y.dv = x.dv) && decide (y.nm = x.nm)) o.ss i = true then 8 else if decide (vF x.fn x.fd) = false ∨ x.n = 0 then 2 else if 12 < x.n then 3 else 0) := ⟨by rw [← hr]; unfold rstE; rw [hx]; rfl⟩; rw [hr]; obtain ⟨nm, dv, fn, fd, A, n, c, ps⟩ := x; simp only [] at HE hxF; have HNM : Sl (nm.size ≤ maxLen) := ⟨hxF.1⟩; have HPN : Sl (n ≤ c ∧ c ≤ maxLen) := ⟨hxF.2.2.2.2.1⟩; clear hxF; have HIN : Sl (i < o.n3 ∧ o.n3 ≤ 1000) := ⟨hi, hn⟩; have hi0 : (0 : Int) ≤ (i : Int) := (by omega); have hi1 : (i : Int) < (o.n3 : Int) := (by omega); clear hr hM hF hall hx hi hn; go_enter Tryz.func81, Tryz.ntmps81
  go_upto_region 1 with ((with_reducible show wpList _ _ _ _ _ _); (refine wpList_box_new 2 rfl rfl 27 (.tmp 0) rfl #[.slice o.A1 o.n1 o.c1, .slice o.A2 o.n2 o.c2, .slice o.A3 o.n3 o.c3, .slice o.A4 o.n4 o.c4] rfl (fun _ => by kernel_rfl) ?_; rintro w1 g0 zg zm zs zb; replace HD : Sl _ := ⟨HD.out.new zg zm zb⟩; clear zg zm zs zb))
  have c0 : w1.cell? ⟨g0, 2, none⟩ = some (.slice (some ⟨gb, oo, none⟩) o.n3 o.c3) := (by rw [← hA]; exact (HD.out.at_ 0 rfl).cell 2); have HA : Sl _ := ⟨hA⟩; clear hA
  go_upto_region 2 with ((with_reducible show wpList _ _ _ _ _ _); first
    | (refine wpList_load_mid rfl 100 (.tmp 10) rfl gb (oo + i * 5) rfl _ _ (HXI.out _ HD.out.bl) Tryz.underlying100 rfl (by kernel_rfl) ?_)
    | (refine wpList_alloc_new 5 rfl rfl 100 rfl #[.string ⟨#[]⟩, .int .i64 0, .int .i64 0, .int .i64 0, .slice none 0 0] (fun _ => by kernel_rfl) ?_; rintro w2 g5 zg zm zs zb; replace HD : Sl _ := ⟨HD.out.new zg zm zb⟩; clear zg zm zs zb)
    | (refine wpList_store_whole rfl 100 (.tmp 5) (.tmp 11) rfl g5 #[.string nm, .int .i64 dv, .int .i64 fn, .int .i64 fd, .slice A n c] rfl rfl 100 _ (HD.out.at_ 0 rfl) rfl (by kernel_rfl) (by simp [Value.oneCell']) ?_; rintro w3 zm zs zb; replace HD : Sl _ := ⟨HD.out.upd zm zb⟩; clear zm zs zb))
  clear c0 hi0 hi1; have c1 : w3.cell? ⟨g5, 0, none⟩ = some (.string nm) := (HD.out.at_ 0 rfl).cell 0; go_wp2_with fail; refine (rname_any nm _ HNM.out).mono ?_; rintro e w4 ⟨rfl, hb4⟩; replace HD : Sl _ := ⟨HD.out.below hb4⟩; clear hb4 c1; obtain ⟨b0, hb0⟩ : ∃ b0, nmB nm = b0 := ⟨_, rfl⟩; rw [hb0] at HE ⊢; clear hb0
  cases b0 with
  | false =>
    go_wp2_with fail; go_ret; exact ⟨by rw [HE.out]; rfl, HD.out.bl⟩
  | true =>
    have c1 : w4.cell? ⟨g5, 1, none⟩ = some (.int .i64 dv) := (HD.out.at_ 0 rfl).cell 1; have c2 : w4.cell? ⟨g0, 0, none⟩ = some (.slice o.A1 o.n1 o.c1) := (HD.out.at_ 1 rfl).cell 0; go_wp2_with fail; refine (rindex_any dv (o.n1 : Int) _).mono ?_; rintro e w5 ⟨rfl, rfl⟩; obtain ⟨b1, hb1⟩ : ∃ b1, wiB dv 0 ((o.n1 : Int) - 1) = b1 := ⟨_, rfl⟩; rw [hb1] at HE ⊢; clear hb1 c1 c2
    cases b1 with
    | false =>
      go_wp2_with fail; go_ret; exact ⟨by rw [HE.out]; rfl, HD.out.bl⟩
    | true =>
      go_wp2_with fail
      go_loopw [6] (fun s6 wv => ∃ k : Nat, k ≤ i ∧ s6 = .int .i64 k ∧ Sl (Lg w wv [(g5, 100, #[.string nm, .int .i64 dv, .int .i64 fn, .int .i64 fd, .slice A n c]), (g0, 27, #[.slice o.A1 o.n1 o.c1, .slice o.A2 o.n2 o.c2, .slice o.A3 o.n3 o.c3, .slice o.A4 o.n4 o.c4])]) ∧ Sl (twB (fun y => decide (y.dv = dv) && decide (y.nm = nm)) o.ss k = false)) (fun s6 _ => i - (RowKit.intOf s6).toNat)
      case atStart => exact ⟨0, Nat.zero_le _, rfl, HD, ⟨rfl⟩⟩
      case round =>
        clear HD; obtain ⟨k, hk, rfl, HD, HTW⟩ := hrel; have hi9 : (i : Int) ≤ 1000 := (by have := HIN.out; omega)
        by_cases hki : k < i
        · have hkI : decide ((k : Int) < (i : Int)) = true := decide_eq_true (by omega); have hkI2 : (k : Int) < (i : Int) := (by omega); have hk0 : (0 : Int) ≤ (k : Int) := (by omega); have hk1 : (k : Int) < (o.n3 : Int) := (by have := HIN.out; omega); obtain ⟨y, hy, hra2⟩ := HALL.out _ HD.out.bl k (by have := HIN.out; omega); have HSU := twB_succ (p := fun y => decide (y.dv = dv) && decide (y.nm = nm)) hy; rw [HTW.out, Bool.false_or] at HSU; have HS2 : Sl _ := ⟨HSU⟩
          have HQ : Sl (∀ W, Below wr.heap.size wr W → (W.cell? ⟨g0, 2, none⟩ = some (.slice (some ⟨gb, oo, none⟩) o.n3 o.c3) ∧ W.cell? ⟨g5, 0, none⟩ = some (.string nm) ∧ W.cell? ⟨g5, 1, none⟩ = some (.int .i64 dv)) ∧ W.cell? ⟨gb, oo + k * 5, none⟩ = some (.string y.nm) ∧ W.cell? ⟨gb, oo + k * 5 + 1, none⟩ = some (.int .i64 y.dv)) := ⟨fun W hW => by
            have hW2 := HD.out.below hW; obtain ⟨y2, hy2, hra3⟩ := HALL.out W hW2.bl k (by have := HIN.out; omega); rw [hy] at hy2; injection hy2 with hy2
            subst hy2
            exact ⟨⟨by rw [← HA.out]; exact (hW2.at_ 1 rfl).cell 2, (hW2.at_ 0 rfl).cell 0, (hW2.at_ 0 rfl).cell 1⟩, hra3 0 _ rfl, hra3 1 _ rfl⟩⟩
          have hS0 : Below wr.heap.size wr wr.drew := below_drewN (Below.refl _ _) 1; clear HSU hra2 hy
          by_cases hd : y.dv = dv
          · by_cases heq : y.nm = nm
            · have HT : Sl (twB (fun y => decide (y.dv = dv) && decide (y.nm = nm)) o.ss i = true) := ⟨twB_mono (by rw [HS2.out, hd, heq]; simp) (by omega : k + 1 ≤ i)⟩; go_wp2_with fail; have hm := hS0; refine wp_region_held_drew (S := fun w' => Below wr.heap.size wr w') (by kernel_rfl) hm (fun hHeld => ?_); clear hm; refine wpAnyH_pure 0 (v := .pointer (some ⟨g0, 2, none⟩)) rfl (by kernel_rfl) (by kernel_rfl) (by kernel_rfl) (fun _ _ _ h => h) rfl (fun _ => by go_simp) (by assumption) ?_; simp only [Act.put, sS0, sS1, sS2]
              refine wpAnyH_cell 1 (v := .slice (some ⟨gb, oo, none⟩) o.n3 o.c3) rfl rfl (fun w' h => by
                have hc := (HQ.out w' h).1.1
                go_simp) (by kernel_rfl) (by kernel_rfl) (by kernel_rfl) (fun _ _ _ h => h) (by assumption) ?_
              simp only [Act.put, sS0, sS1, sS2]; refine wpAnyH_pure 2 (v := .int .i64 (k : Int)) rfl (by kernel_rfl) (by kernel_rfl) (by kernel_rfl) (fun _ _ _ h => h) rfl (fun _ => rfl) (by assumption) ?_; simp only [Act.put, sS0, sS1, sS2]; refine wpAnyH_pure 3 (v := .pointer (some ⟨gb, oo + k * 5, none⟩)) rfl (by kernel_rfl) (by kernel_rfl) (by kernel_rfl) (fun _ _ _ h => h) rfl (fun _ => by go_simp) (by assumption) ?_; simp only [Act.put, sS0, sS1, sS2]; refine wpAnyH_pure 4 (v := .pointer (some ⟨gb, oo + k * 5 + 1, none⟩)) rfl (by kernel_rfl) (by kernel_rfl) (by kernel_rfl) (fun _ _ _ h => h) rfl (fun _ => by go_simp) (by assumption) ?_; simp only [Act.put, sS0, sS1, sS2]
              refine wpAnyH_cell 5 (v := .int .i64 y.dv) rfl rfl (fun w' h => by
                have hc := (HQ.out w' h).2.2
                go_simp) (by kernel_rfl) (by kernel_rfl) (by kernel_rfl) (fun _ _ _ h => h) (by assumption) ?_
              simp only [Act.put, sS0, sS1, sS2]; refine wpAnyH_pure 6 (v := .pointer (some ⟨g5, 1, none⟩)) rfl (by kernel_rfl) (by kernel_rfl) (by kernel_rfl) (fun _ _ _ h => h) rfl (fun _ => by go_simp) (by assumption) ?_; simp only [Act.put, sS0, sS1, sS2]
              refine wpAnyH_cell 7 (v := .int .i64 dv) rfl rfl (fun w' h => by
                have hc := (HQ.out w' h).1.2.2
                go_simp) (by kernel_rfl) (by kernel_rfl) (by kernel_rfl) (fun _ _ _ h => h) (by assumption) ?_
              simp only [Act.put, sS0, sS1, sS2]; refine wpAnyH_pure 8 (v := .bool true) rfl (by kernel_rfl) (by kernel_rfl) (by kernel_rfl) (fun _ _ _ h => h) rfl (fun _ => by go_simp; (try simpa using hd)) (by assumption) ?_; simp only [Act.put, sS0, sS1, sS2]; refine wpAnyH_pure 9 (v := .bool true) rfl (by kernel_rfl) (by kernel_rfl) (by kernel_rfl) (fun _ _ _ h => h) rfl (fun _ => rfl) (by assumption) ?_; simp only [Act.put, sS0, sS1, sS2]; refine wpAnyH_pureg 10 (v := .pointer (some ⟨g0, 2, none⟩)) rfl (by kernel_rfl) (by kernel_rfl) (by kernel_rfl) (fun _ _ _ h => h) (by rfl) (fun _ => by go_simp) (by assumption) ?_; simp only [Act.put, sS0, sS1, sS2]
              refine wpAnyH_cellg 11 (v := .slice (some ⟨gb, oo, none⟩) o.n3 o.c3) rfl (by rfl) (fun w' h => by
                have hc := (HQ.out w' h).1.1
                go_simp) (by kernel_rfl) (by kernel_rfl) (by kernel_rfl) (fun _ _ _ h => h) (by assumption) ?_
              simp only [Act.put, sS0, sS1, sS2]; refine wpAnyH_pureg 12 (v := .int .i64 (k : Int)) rfl (by kernel_rfl) (by kernel_rfl) (by kernel_rfl) (fun _ _ _ h => h) (by rfl) (fun _ => rfl) (by assumption) ?_; simp only [Act.put, sS0, sS1, sS2]; refine wpAnyH_pureg 13 (v := .pointer (some ⟨gb, oo + k * 5, none⟩)) rfl (by kernel_rfl) (by kernel_rfl) (by kernel_rfl) (fun _ _ _ h => h) (by rfl) (fun _ => by go_simp) (by assumption) ?_; simp only [Act.put, sS0, sS1, sS2]; refine wpAnyH_pureg 14 (v := .pointer (some ⟨gb, oo + k * 5, none⟩)) rfl (by kernel_rfl) (by kernel_rfl) (by kernel_rfl) (fun _ _ _ h => h) (by rfl) (fun _ => by go_simp) (by assumption) ?_; simp only [Act.put, sS0, sS1, sS2]
              refine wpAnyH_cellg 15 (v := .string y.nm) rfl (by rfl) (fun w' h => by
                have hc := (HQ.out w' h).2.1
                go_simp) (by kernel_rfl) (by kernel_rfl) (by kernel_rfl) (fun _ _ _ h => h) (by assumption) ?_
              simp only [Act.put, sS0, sS1, sS2]; refine wpAnyH_pureg 16 (v := .pointer (some ⟨g5, 0, none⟩)) rfl (by kernel_rfl) (by kernel_rfl) (by kernel_rfl) (fun _ _ _ h => h) (by rfl) (fun _ => by go_simp) (by assumption) ?_; simp only [Act.put, sS0, sS1, sS2]
              refine wpAnyH_cellg 17 (v := .string nm) rfl (by rfl) (fun w' h => by
                have hc := (HQ.out w' h).1.2.1
                go_simp) (by kernel_rfl) (by kernel_rfl) (by kernel_rfl) (fun _ _ _ h => h) (by assumption) ?_
              simp only [Act.put, sS0, sS1, sS2]; refine wpAnyH_pureg 18 (v := .bool true) rfl (by kernel_rfl) (by kernel_rfl) (by kernel_rfl) (fun _ _ _ h => h) (by rfl) (fun _ => by go_simp; (first | (simpa using heq) | exact fun h => heq (cbytes_eq h) | skip)) (by assumption) ?_; simp only [Act.put, sS0, sS1, sS2]; refine wpAnyH_pure 19 (v := .bool true) rfl (by kernel_rfl) (by kernel_rfl) (by kernel_rfl) (fun _ _ _ h => h) rfl (fun _ => by go_simp) (by assumption) ?_; simp only [Act.put, sS0, sS1, sS2]; refine wpAnyH_done (by kernel_rfl) ?_ _; clear hHeld; go_wp2_with fail; go_ret; exact ⟨by rw [HE.out, HT.out]; rfl, below_drewN HD.out.bl 1⟩
            · have HT : Sl (twB (fun y => decide (y.dv = dv) && decide (y.nm = nm)) o.ss (k + 1) = false) := ⟨by rw [HS2.out]; simp [heq]⟩; go_wp2_with fail; have hm := hS0; refine wp_region_held_drew (S := fun w' => Below wr.heap.size wr w') (by kernel_rfl) hm (fun hHeld => ?_); clear hm; refine wpAnyH_pure 0 (v := .pointer (some ⟨g0, 2, none⟩)) rfl (by kernel_rfl) (by kernel_rfl) (by kernel_rfl) (fun _ _ _ h => h) rfl (fun _ => by go_simp) (by assumption) ?_; simp only [Act.put, sS0, sS1, sS2]
              refine wpAnyH_cell 1 (v := .slice (some ⟨gb, oo, none⟩) o.n3 o.c3) rfl rfl (fun w' h => by
                have hc := (HQ.out w' h).1.1
                go_simp) (by kernel_rfl) (by kernel_rfl) (by kernel_rfl) (fun _ _ _ h => h) (by assumption) ?_
              simp only [Act.put, sS0, sS1, sS2]; refine wpAnyH_pure 2 (v := .int .i64 (k : Int)) rfl (by kernel_rfl) (by kernel_rfl) (by kernel_rfl) (fun _ _ _ h => h) rfl (fun _ => rfl) (by assumption) ?_; simp only [Act.put, sS0, sS1, sS2]; refine wpAnyH_pure 3 (v := .pointer (some ⟨gb, oo + k * 5, none⟩)) rfl (by kernel_rfl) (by kernel_rfl) (by kernel_rfl) (fun _ _ _ h => h) rfl (fun _ => by go_simp) (by assumption) ?_; simp only [Act.put, sS0, sS1, sS2]; refine wpAnyH_pure 4 (v := .pointer (some ⟨gb, oo + k * 5 + 1, none⟩)) rfl (by kernel_rfl) (by kernel_rfl) (by kernel_rfl) (fun _ _ _ h => h) rfl (fun _ => by go_simp) (by assumption) ?_; simp only [Act.put, sS0, sS1, sS2]
              refine wpAnyH_cell 5 (v := .int .i64 y.dv) rfl rfl (fun w' h => by
                have hc := (HQ.out w' h).2.2
                go_simp) (by kernel_rfl) (by kernel_rfl) (by kernel_rfl) (fun _ _ _ h => h) (by assumption) ?_
              simp only [Act.put, sS0, sS1, sS2]; refine wpAnyH_pure 6 (v := .pointer (some ⟨g5, 1, none⟩)) rfl (by kernel_rfl) (by kernel_rfl) (by kernel_rfl) (fun _ _ _ h => h) rfl (fun _ => by go_simp) (by assumption) ?_; simp only [Act.put, sS0, sS1, sS2]
              refine wpAnyH_cell 7 (v := .int .i64 dv) rfl rfl (fun w' h => by
                have hc := (HQ.out w' h).1.2.2
                go_simp) (by kernel_rfl) (by kernel_rfl) (by kernel_rfl) (fun _ _ _ h => h) (by assumption) ?_
              simp only [Act.put, sS0, sS1, sS2]; refine wpAnyH_pure 8 (v := .bool true) rfl (by kernel_rfl) (by kernel_rfl) (by kernel_rfl) (fun _ _ _ h => h) rfl (fun _ => by go_simp; (try simpa using hd)) (by assumption) ?_; simp only [Act.put, sS0, sS1, sS2]; refine wpAnyH_pure 9 (v := .bool true) rfl (by kernel_rfl) (by kernel_rfl) (by kernel_rfl) (fun _ _ _ h => h) rfl (fun _ => rfl) (by assumption) ?_; simp only [Act.put, sS0, sS1, sS2]; refine wpAnyH_pureg 10 (v := .pointer (some ⟨g0, 2, none⟩)) rfl (by kernel_rfl) (by kernel_rfl) (by kernel_rfl) (fun _ _ _ h => h) (by rfl) (fun _ => by go_simp) (by assumption) ?_; simp only [Act.put, sS0, sS1, sS2]
              refine wpAnyH_cellg 11 (v := .slice (some ⟨gb, oo, none⟩) o.n3 o.c3) rfl (by rfl) (fun w' h => by
                have hc := (HQ.out w' h).1.1
                go_simp) (by kernel_rfl) (by kernel_rfl) (by kernel_rfl) (fun _ _ _ h => h) (by assumption) ?_
              simp only [Act.put, sS0, sS1, sS2]; refine wpAnyH_pureg 12 (v := .int .i64 (k : Int)) rfl (by kernel_rfl) (by kernel_rfl) (by kernel_rfl) (fun _ _ _ h => h) (by rfl) (fun _ => rfl) (by assumption) ?_; simp only [Act.put, sS0, sS1, sS2]; refine wpAnyH_pureg 13 (v := .pointer (some ⟨gb, oo + k * 5, none⟩)) rfl (by kernel_rfl) (by kernel_rfl) (by kernel_rfl) (fun _ _ _ h => h) (by rfl) (fun _ => by go_simp) (by assumption) ?_; simp only [Act.put, sS0, sS1, sS2]; refine wpAnyH_pureg 14 (v := .pointer (some ⟨gb, oo + k * 5, none⟩)) rfl (by kernel_rfl) (by kernel_rfl) (by kernel_rfl) (fun _ _ _ h => h) (by rfl) (fun _ => by go_simp) (by assumption) ?_; simp only [Act.put, sS0, sS1, sS2]
              refine wpAnyH_cellg 15 (v := .string y.nm) rfl (by rfl) (fun w' h => by
                have hc := (HQ.out w' h).2.1
                go_simp) (by kernel_rfl) (by kernel_rfl) (by kernel_rfl) (fun _ _ _ h => h) (by assumption) ?_
              simp only [Act.put, sS0, sS1, sS2]; refine wpAnyH_pureg 16 (v := .pointer (some ⟨g5, 0, none⟩)) rfl (by kernel_rfl) (by kernel_rfl) (by kernel_rfl) (fun _ _ _ h => h) (by rfl) (fun _ => by go_simp) (by assumption) ?_; simp only [Act.put, sS0, sS1, sS2]
              refine wpAnyH_cellg 17 (v := .string nm) rfl (by rfl) (fun w' h => by
                have hc := (HQ.out w' h).1.2.1
                go_simp) (by kernel_rfl) (by kernel_rfl) (by kernel_rfl) (fun _ _ _ h => h) (by assumption) ?_
              simp only [Act.put, sS0, sS1, sS2]; refine wpAnyH_pureg 18 (v := .bool false) rfl (by kernel_rfl) (by kernel_rfl) (by kernel_rfl) (fun _ _ _ h => h) (by rfl) (fun _ => by go_simp; (first | (simpa using heq) | exact fun h => heq (cbytes_eq h) | skip)) (by assumption) ?_; simp only [Act.put, sS0, sS1, sS2]; refine wpAnyH_pure 19 (v := .bool false) rfl (by kernel_rfl) (by kernel_rfl) (by kernel_rfl) (fun _ _ _ h => h) rfl (fun _ => by go_simp) (by assumption) ?_; simp only [Act.put, sS0, sS1, sS2]; refine wpAnyH_done (by kernel_rfl) ?_ _; clear hHeld; go_wp2_with fail; exact ⟨⟨k + 1, by omega, by go_num, ⟨HD.out.below (below_drewN (Below.refl _ _) 1)⟩, HT⟩, by simp [RowKit.intOf]; omega⟩
          · have HT : Sl (twB (fun y => decide (y.dv = dv) && decide (y.nm = nm)) o.ss (k + 1) = false) := ⟨by rw [HS2.out]; simp [hd]⟩; go_wp2_with fail; have hm := hS0; refine wp_region_held_drew (S := fun w' => Below wr.heap.size wr w') (by kernel_rfl) hm (fun hHeld => ?_); clear hm; refine wpAnyH_pure 0 (v := .pointer (some ⟨g0, 2, none⟩)) rfl (by kernel_rfl) (by kernel_rfl) (by kernel_rfl) (fun _ _ _ h => h) rfl (fun _ => by go_simp) (by assumption) ?_; simp only [Act.put, sS0, sS1, sS2]
            refine wpAnyH_cell 1 (v := .slice (some ⟨gb, oo, none⟩) o.n3 o.c3) rfl rfl (fun w' h => by
              have hc := (HQ.out w' h).1.1
              go_simp) (by kernel_rfl) (by kernel_rfl) (by kernel_rfl) (fun _ _ _ h => h) (by assumption) ?_
            simp only [Act.put, sS0, sS1, sS2]; refine wpAnyH_pure 2 (v := .int .i64 (k : Int)) rfl (by kernel_rfl) (by kernel_rfl) (by kernel_rfl) (fun _ _ _ h => h) rfl (fun _ => rfl) (by assumption) ?_; simp only [Act.put, sS0, sS1, sS2]; refine wpAnyH_pure 3 (v := .pointer (some ⟨gb, oo + k * 5, none⟩)) rfl (by kernel_rfl) (by kernel_rfl) (by kernel_rfl) (fun _ _ _ h => h) rfl (fun _ => by go_simp) (by assumption) ?_; simp only [Act.put, sS0, sS1, sS2]; refine wpAnyH_pure 4 (v := .pointer (some ⟨gb, oo + k * 5 + 1, none⟩)) rfl (by kernel_rfl) (by kernel_rfl) (by kernel_rfl) (fun _ _ _ h => h) rfl (fun _ => by go_simp) (by assumption) ?_; simp only [Act.put, sS0, sS1, sS2]
            refine wpAnyH_cell 5 (v := .int .i64 y.dv) rfl rfl (fun w' h => by
              have hc := (HQ.out w' h).2.2
              go_simp) (by kernel_rfl) (by kernel_rfl) (by kernel_rfl) (fun _ _ _ h => h) (by assumption) ?_
            simp only [Act.put, sS0, sS1, sS2]; refine wpAnyH_pure 6 (v := .pointer (some ⟨g5, 1, none⟩)) rfl (by kernel_rfl) (by kernel_rfl) (by kernel_rfl) (fun _ _ _ h => h) rfl (fun _ => by go_simp) (by assumption) ?_; simp only [Act.put, sS0, sS1, sS2]
            refine wpAnyH_cell 7 (v := .int .i64 dv) rfl rfl (fun w' h => by
              have hc := (HQ.out w' h).1.2.2
              go_simp) (by kernel_rfl) (by kernel_rfl) (by kernel_rfl) (fun _ _ _ h => h) (by assumption) ?_
            simp only [Act.put, sS0, sS1, sS2]; refine wpAnyH_pure 8 (v := .bool false) rfl (by kernel_rfl) (by kernel_rfl) (by kernel_rfl) (fun _ _ _ h => h) rfl (fun _ => by go_simp; (try simpa using hd)) (by assumption) ?_; simp only [Act.put, sS0, sS1, sS2]; refine wpAnyH_pure 9 (v := .bool false) rfl (by kernel_rfl) (by kernel_rfl) (by kernel_rfl) (fun _ _ _ h => h) rfl (fun _ => rfl) (by assumption) ?_; simp only [Act.put, sS0, sS1, sS2]; refine wpAnyH_no 10 rfl (by kernel_rfl) (by kernel_rfl) (by kernel_rfl) (fun _ _ _ h => h) (by rfl) (by assumption) ?_; simp only [Act.put, sS0, sS1, sS2]; refine wpAnyH_no 11 rfl (by kernel_rfl) (by kernel_rfl) (by kernel_rfl) (fun _ _ _ h => h) (by rfl) (by assumption) ?_; simp only [Act.put, sS0, sS1, sS2]; refine wpAnyH_no 12 rfl (by kernel_rfl) (by kernel_rfl) (by kernel_rfl) (fun _ _ _ h => h) (by rfl) (by assumption) ?_; simp only [Act.put, sS0, sS1, sS2]; refine wpAnyH_no 13 rfl (by kernel_rfl) (by kernel_rfl) (by kernel_rfl) (fun _ _ _ h => h) (by rfl) (by assumption) ?_; simp only [Act.put, sS0, sS1, sS2]; refine wpAnyH_no 14 rfl (by kernel_rfl) (by kernel_rfl) (by kernel_rfl) (fun _ _ _ h => h) (by rfl) (by assumption) ?_; simp only [Act.put, sS0, sS1, sS2]; refine wpAnyH_no 15 rfl (by kernel_rfl) (by kernel_rfl) (by kernel_rfl) (fun _ _ _ h => h) (by rfl) (by assumption) ?_; simp only [Act.put, sS0, sS1, sS2]; refine wpAnyH_no 16 rfl (by kernel_rfl) (by kernel_rfl) (by kernel_rfl) (fun _ _ _ h => h) (by rfl) (by assumption) ?_; simp only [Act.put, sS0, sS1, sS2]; refine wpAnyH_no 17 rfl (by kernel_rfl) (by kernel_rfl) (by kernel_rfl) (fun _ _ _ h => h) (by rfl) (by assumption) ?_; simp only [Act.put, sS0, sS1, sS2]; refine wpAnyH_no 18 rfl (by kernel_rfl) (by kernel_rfl) (by kernel_rfl) (fun _ _ _ h => h) (by rfl) (by assumption) ?_; simp only [Act.put, sS0, sS1, sS2]; refine wpAnyH_pure 19 (v := .bool false) rfl (by kernel_rfl) (by kernel_rfl) (by kernel_rfl) (fun _ _ _ h => h) rfl (fun _ => by go_simp) (by assumption) ?_; simp only [Act.put, sS0, sS1, sS2]; refine wpAnyH_done (by kernel_rfl) ?_ _; clear hHeld; go_wp2_with fail; exact ⟨⟨k + 1, by omega, by go_num, ⟨HD.out.below (below_drewN (Below.refl _ _) 1)⟩, HT⟩, by simp [RowKit.intOf]; omega⟩
        · obtain rfl : i = k := (by omega); have hkI : decide ((i : Int) < (i : Int)) = false := (by simp); rw [HTW.out, if_neg (by decide), if_neg (by decide), if_neg (by decide)] at HE; clear HTW hki hk; have d2 : wr.cell? ⟨g5, 2, none⟩ = some (.int .i64 fn) := (HD.out.at_ 0 rfl).cell 2; have d3 : wr.cell? ⟨g5, 3, none⟩ = some (.int .i64 fd) := (HD.out.at_ 0 rfl).cell 3; go_wp2_with fail; refine (rvalid_any fn fd _).mono ?_; rintro e w6 ⟨rfl, hb6⟩; replace HD : Sl _ := ⟨HD.out.below hb6⟩; clear hb6 d2 d3; obtain ⟨b2, hb2⟩ : ∃ b2, decide (vF fn fd) = b2 := ⟨_, rfl⟩; rw [hb2] at HE ⊢; clear hb2
          cases b2 with
          | false =>
            have HV : Sl (r = 2) := ⟨by rw [HE.out, if_pos (.inl rfl)]⟩; clear HE; go_wp2_with fail; go_ret; exact ⟨by first | (rw [HV.out]; rfl) | rw [HV.out], HD.out.bl⟩
          | true =>
            have d4 : w6.cell? ⟨g5, 4, none⟩ = some (.slice A n c) := (HD.out.at_ 0 rfl).cell 4
            by_cases n0 : n = 0
            · subst n0; have HV : Sl (r = 2) := ⟨by rw [HE.out, if_pos (.inr rfl)]⟩; clear HE; go_wp2_with fail; go_ret; exact ⟨by first | (rw [HV.out]; rfl) | rw [HV.out], HD.out.bl⟩
            · have n0b : ((n : Int) == 0) = false := (by rw [beq_eq_false_iff_ne]; omega)
              by_cases n12 : 12 < n
              · have n12d : decide ((12 : Int) < (n : Int)) = true := decide_eq_true (by omega); have HV : Sl (r = 3) := ⟨by rw [HE.out, if_neg (by simp; omega), if_pos n12]⟩; clear HE; go_wp2_with fail; go_ret; exact ⟨by first | (rw [HV.out]; rfl) | rw [HV.out], HD.out.bl⟩
              · have n12d : decide ((12 : Int) < (n : Int)) = false := decide_eq_false (by omega); have HV : Sl (r = 0) := ⟨by rw [HE.out, if_neg (by simp; omega), if_neg n12]⟩; clear HE; go_wp2_with fail; go_ret; exact ⟨by first | (rw [HV.out]; rfl) | rw [HV.out], HD.out.bl⟩
set_option maxHeartbeats 3200000 in
set_option maxRecDepth 100000 in
theorem rpart_any (o : SpO) (s0 : ByteArray) (dv : Nat) (s2 s3 : Int) (s4 : Option Addr) (s5 s6 : Nat) (p : PrV) (w : World) (hM : SpM w o) (hdv : dv < o.n1) (hn1 : o.n1 ≤ 1000) (hn2 : o.n2 ≤ 1000)
    (hrb : ∀ r ∈ o.rs, (0 ≤ r.lo ∧ r.lo ≤ 1000) ∧ 0 ≤ r.ct ∧ r.ct ≤ 1000) (hdb : ∀ d ∈ o.ds, 0 ≤ d.lo ∧ d.hi ≤ 1000) (hp : i64 p.rk) :
    Calls Tryz.prog 82 #[.agg #[.slice o.A1 o.n1 o.c1, .slice o.A2 o.n2 o.c2, .slice o.A3 o.n3 o.c3, .slice o.A4 o.n4 o.c4], .agg #[.string s0, .int .i64 (dv : Int), .int .i64 s2, .int .i64 s3, .slice s4 s5 s6], .agg #[.int .i64 p.rk, .int .i64 p.sh, .int .i64 p.lo, .int .i64 p.hi]] w fun e w' => e = .returned (.int .i64 (prtE o.rs (o.ds[dv]?.getD dv0) p)) ∧ Below w.heap.size w w' := by
  have HD : Sl (Lg w w []) := ⟨Lg.nil w⟩; obtain ⟨gb, oo, hA, hgb, hall⟩ := hM.d.all_ (by decide) (show 0 < o.n1 by omega); have HALL : Sl _ := ⟨hall⟩; obtain ⟨d, hd, _⟩ := hall w (Below.refl _ _) dv hdv
  have HXI : Sl (∀ W, Below w.heap.size w W → W.rangeAt gb (oo + dv * 3) d.cells) := ⟨fun W hW => by
    obtain ⟨x2, hx2, h2⟩ := HALL.out W hW dv hdv; rw [hd] at hx2; injection hx2 with hx2
    rw [hx2]
    exact h2⟩
  have hdF := hdb d (List.mem_of_getElem? hd); rw [hd, Option.getD_some]; have HRL : Sl (o.rs.length = o.n2) := ⟨hM.r.len⟩; have HRM : Sl _ := ⟨hM.r⟩; have HRB : Sl _ := ⟨hrb⟩; obtain ⟨r, hr⟩ : ∃ r, prtE o.rs d p = r := ⟨_, rfl⟩
  have HE : Sl (r = if wiB p.rk 0 ((o.rs.length : Int) - 1) = false then 4 else if wiB p.lo d.lo d.hi && (wiB p.hi p.lo d.hi && wiB p.sh (-96) 96) then
    (if p.lo + p.sh < (o.rs[p.rk.toNat]?.getD rn0).lo ∨ (o.rs[p.rk.toNat]?.getD rn0).lo + (o.rs[p.rk.toNat]?.getD rn0).ct ≤ p.hi + p.sh then 4 else 0) else 7) := ⟨by rw [← hr]; rfl⟩
  rw [hr]; rw [HRL.out] at HE; obtain ⟨dn, lo, hj⟩ := d; obtain ⟨rk, sh, plo, phi⟩ := p; simp only [] at HE hdF ⊢; have hdv0 : (0 : Int) ≤ (dv : Int) := (by omega); have hdv1 : (dv : Int) < (o.n1 : Int) := (by omega); have HN2 : Sl (o.n2 ≤ 1000) := ⟨hn2⟩; clear hr hM hall hd hrb hdb hp; go_enter Tryz.func82, Tryz.ntmps82
  go_upto_region 1 with ((with_reducible show wpList _ _ _ _ _ _); first
    | (refine wpList_box_new 3 rfl rfl 27 (.tmp 0) rfl #[.slice o.A1 o.n1 o.c1, .slice o.A2 o.n2 o.c2, .slice o.A3 o.n3 o.c3, .slice o.A4 o.n4 o.c4] rfl (fun _ => by kernel_rfl) ?_; rintro w1 g0 zg zm zs zb; replace HD : Sl _ := ⟨HD.out.new zg zm zb⟩; clear zg zm zs zb)
    | (refine wpList_box_new 4 rfl rfl 100 (.tmp 1) rfl #[.string s0, .int .i64 (dv : Int), .int .i64 s2, .int .i64 s3, .slice s4 s5 s6] rfl (fun _ => by kernel_rfl) ?_; rintro w2 g1 zg zm zs zb; replace HD : Sl _ := ⟨HD.out.new zg zm zb⟩; clear zg zm zs zb)
    | (refine wpList_box_new 5 rfl rfl 124 (.tmp 2) rfl #[.int .i64 rk, .int .i64 sh, .int .i64 plo, .int .i64 phi] rfl (fun _ => by kernel_rfl) ?_; rintro w3 g2 zg zm zs zb; replace HD : Sl _ := ⟨HD.out.new zg zm zb⟩; clear zg zm zs zb))
  have c0 : w3.cell? ⟨g2, 0, none⟩ = some (.int .i64 rk) := (HD.out.at_ 0 rfl).cell 0; have c1 : w3.cell? ⟨g0, 1, none⟩ = some (.slice o.A2 o.n2 o.c2) := (HD.out.at_ 2 rfl).cell 1; go_wp2_with fail; refine (rindex_any rk (o.n2 : Int) _).mono ?_; rintro e w5 ⟨rfl, rfl⟩; obtain ⟨b1, hb1⟩ : ∃ b1, wiB rk 0 ((o.n2 : Int) - 1) = b1 := ⟨_, rfl⟩; rw [hb1] at HE ⊢; have HB1 : Sl _ := ⟨hb1⟩; clear hb1 c0 c1
  cases b1 with
  | false =>
    go_wp2_with fail; go_ret; exact ⟨by rw [HE.out]; rfl, HD.out.bl⟩
  | true =>
    rw [if_neg (by decide)] at HE; have hrk := wi_iff.1 HB1.out; obtain ⟨rk, rfl⟩ := Int.eq_ofNat_of_zero_le hrk.1; rw [Int.toNat_natCast] at HE; have hrk0 : (0 : Int) ≤ (rk : Int) := (by omega); have hrk1 : (rk : Int) < (o.n2 : Int) := (by omega); have hrkn : rk < o.n2 := (by omega); obtain ⟨gr, orr, hAr, hgr, hallr⟩ := HRM.out.all_ (by decide) (show 0 < o.n2 by omega); obtain ⟨x, hx, _⟩ := hallr w (Below.refl _ _) rk hrkn; have hxb := HRB.out x (List.mem_of_getElem? hx)
    have HXR : Sl (∀ W, Below w.heap.size w W → W.rangeAt gr (orr + rk * 6) x.cells) := ⟨fun W hW => by
      obtain ⟨x2, hx2, h2⟩ := hallr W hW rk hrkn; rw [hx] at hx2; injection hx2 with hx2
      rw [hx2]
      exact h2⟩
    rw [hx, Option.getD_some] at HE; have HXB : Sl _ := ⟨hxb⟩; have HAR : Sl _ := ⟨hAr⟩; have HDF : Sl _ := ⟨hdF⟩; have HRK : Sl (rk < o.n2) := ⟨hrkn⟩; clear hx hallr hrk hrkn hgr hxb hAr hdF HB1; have c0 : w5.cell? ⟨g0, 0, none⟩ = some (.slice (some ⟨gb, oo, none⟩) o.n1 o.c1) := (by rw [← hA]; exact (HD.out.at_ 2 rfl).cell 0); have c1 : w5.cell? ⟨g1, 1, none⟩ = some (.int .i64 (dv : Int)) := (HD.out.at_ 1 rfl).cell 1; have HA : Sl _ := ⟨hA⟩; clear hA
    go_upto_region 4 with ((with_reducible show wpList _ _ _ _ _ _); first
      | (refine wpList_load_mid rfl 93 (.tmp 20) rfl gb (oo + dv * 3) rfl _ _ (HXI.out _ HD.out.bl) Tryz.underlying93 rfl (by kernel_rfl) ?_)
      | (refine wpList_alloc_new 7 rfl rfl 93 rfl #[.string ⟨#[]⟩, .int .i64 0, .int .i64 0] (fun _ => by kernel_rfl) ?_; rintro w7 g7 zg zm zs zb; replace HD : Sl _ := ⟨HD.out.new zg zm zb⟩; clear zg zm zs zb)
      | (refine wpList_store_whole rfl 93 (.tmp 7) (.tmp 21) rfl g7 #[.string dn, .int .i64 lo, .int .i64 hj] rfl rfl 93 _ (HD.out.at_ 0 rfl) rfl (by kernel_rfl) (by simp [Value.oneCell']) ?_; rintro w8 zm zs zb; replace HD : Sl _ := ⟨HD.out.upd zm zb⟩; clear zm zs zb))
    clear c0 c1; have c2 : w8.cell? ⟨g2, 2, none⟩ = some (.int .i64 plo) := (HD.out.at_ 1 rfl).cell 2; have c3 : w8.cell? ⟨g2, 3, none⟩ = some (.int .i64 phi) := (HD.out.at_ 1 rfl).cell 3; have c4 : w8.cell? ⟨g2, 1, none⟩ = some (.int .i64 sh) := (HD.out.at_ 1 rfl).cell 1; have c5 : w8.cell? ⟨g7, 1, none⟩ = some (.int .i64 lo) := (HD.out.at_ 0 rfl).cell 1; have c6 : w8.cell? ⟨g7, 2, none⟩ = some (.int .i64 hj) := (HD.out.at_ 0 rfl).cell 2
    by_cases p0 : plo < lo
    · have p0d : decide (plo < lo) = true := decide_eq_true p0; have HV : Sl (r = 7) := ⟨by rw [HE.out, if_neg]; unfold wiB; simp; omega⟩; clear HE; go_wp2_with fail; go_ret; exact ⟨by first | (rw [HV.out]; rfl) | rw [HV.out], HD.out.bl⟩
    · have p0d : decide (plo < lo) = false := decide_eq_false p0
      by_cases p1 : hj < phi
      · have p1d : decide (hj < phi) = true := decide_eq_true p1; have HV : Sl (r = 7) := ⟨by rw [HE.out, if_neg]; unfold wiB; simp; omega⟩; clear HE; go_wp2_with fail; go_ret; exact ⟨by first | (rw [HV.out]; rfl) | rw [HV.out], HD.out.bl⟩
      · have p1d : decide (hj < phi) = false := decide_eq_false p1
        by_cases p2 : phi < plo
        · have p2d : decide (phi < plo) = true := decide_eq_true p2; have HV : Sl (r = 7) := ⟨by rw [HE.out, if_neg]; unfold wiB; simp; omega⟩; clear HE; go_wp2_with fail; go_ret; exact ⟨by first | (rw [HV.out]; rfl) | rw [HV.out], HD.out.bl⟩
        · have p2d : decide (phi < plo) = false := decide_eq_false p2
          by_cases p3 : sh < -96
          · have p3d : decide (sh < -96) = true := decide_eq_true p3; have HV : Sl (r = 7) := ⟨by rw [HE.out, if_neg]; unfold wiB; simp; omega⟩; clear HE; go_wp2_with fail; go_ret; exact ⟨by first | (rw [HV.out]; rfl) | rw [HV.out], HD.out.bl⟩
          · have p3d : decide (sh < -96) = false := decide_eq_false p3
            by_cases p4 : 96 < sh
            · have p4d : decide (96 < sh) = true := decide_eq_true p4; have HV : Sl (r = 7) := ⟨by rw [HE.out, if_neg]; unfold wiB; simp; omega⟩; clear HE; go_wp2_with fail; go_ret; exact ⟨by first | (rw [HV.out]; rfl) | rw [HV.out], HD.out.bl⟩
            · have p4d : decide (96 < sh) = false := decide_eq_false p4; have HOK : Sl ((wiB plo lo hj && (wiB phi plo hj && wiB sh (-96) 96)) = true) := ⟨by unfold wiB; simp; omega⟩; rw [if_pos HOK.out] at HE; have HBD : Sl (0 ≤ plo ∧ phi ≤ 1000 ∧ plo ≤ phi ∧ -96 ≤ sh ∧ sh ≤ 96) := ⟨by have := HDF.out; omega⟩; clear HOK; go_wp2_with fail; clear c2 c3 c4 c5 c6 p0 p1 p2 p3 p4 p0d p1d p2d p3d p4d
              go_loopw [8] (fun s8 wv => ∃ key : Int, plo ≤ key ∧ key ≤ phi + 1 ∧ s8 = .int .i64 key ∧ Sl (Lg w wv [(g7, 93, #[.string dn, .int .i64 lo, .int .i64 hj]), (g2, 124, #[.int .i64 (rk : Int), .int .i64 sh, .int .i64 plo, .int .i64 phi]), (g1, 100, #[.string s0, .int .i64 (dv : Int), .int .i64 s2, .int .i64 s3, .slice s4 s5 s6]), (g0, 27, #[.slice o.A1 o.n1 o.c1, .slice o.A2 o.n2 o.c2, .slice o.A3 o.n3 o.c3, .slice o.A4 o.n4 o.c4])]) ∧ Sl (∀ j, plo ≤ j → j < key → x.lo ≤ j + sh ∧ j + sh < x.lo + x.ct)) (fun s8 _ => (phi + 1 - RowKit.intOf s8).toNat)
              case atStart => exact ⟨plo, Int.le_refl _, by have := HBD.out; omega, rfl, HD, ⟨fun j h1 h2 => by omega⟩⟩
              case round =>
                clear HD; obtain ⟨key, hk0, hk1, rfl, HD, HK⟩ := hrel; have c3 : wr.cell? ⟨g2, 3, none⟩ = some (.int .i64 phi) := (HD.out.at_ 1 rfl).cell 3; have hb := HBD.out; have hkb : key ≤ 1001 := (by omega); have hkc : 0 ≤ key := (by omega)
                by_cases hkp : key ≤ phi
                · have hkd : decide (key ≤ phi) = true := decide_eq_true hkp; have HQ : Sl (∀ W, Below wr.heap.size wr W → Lg w W [(g7, 93, #[.string dn, .int .i64 lo, .int .i64 hj]), (g2, 124, #[.int .i64 (rk : Int), .int .i64 sh, .int .i64 plo, .int .i64 phi]), (g1, 100, #[.string s0, .int .i64 (dv : Int), .int .i64 s2, .int .i64 s3, .slice s4 s5 s6]), (g0, 27, #[.slice o.A1 o.n1 o.c1, .slice o.A2 o.n2 o.c2, .slice o.A3 o.n3 o.c3, .slice o.A4 o.n4 o.c4])]) := ⟨fun W hW => HD.out.below hW⟩; have hS0 : Below wr.heap.size wr wr.drew := below_drewN (Below.refl _ _) 1; have HS0 : Sl _ := ⟨hS0⟩; have hws : IntKind.i64.wrap (key + sh) = key + sh := (by rw [IntKind.wrap_i64]; omega); have HH : Sl _ := ⟨fun W : World => rhas_any2 x (key + sh) W HXB.out⟩; have HKP : Sl (key ≤ phi) := ⟨hkp⟩; obtain ⟨bb, hbb⟩ : ∃ bb, decide (x.lo ≤ key + sh ∧ key + sh < x.lo + x.ct) = bb := ⟨_, rfl⟩; rw [hbb] at HH; have HBB : Sl _ := ⟨hbb⟩; clear hbb; go_wp2_with fail; clear c3; have hm := hS0; refine wp_region_held_drew (S := fun w' => Below wr.heap.size wr w') (by kernel_rfl) hm (fun hHeld => ?_); clear hm; refine wpAnyH_pure 0 (v := .pointer (some ⟨g0, 1, none⟩)) rfl (by kernel_rfl) (by kernel_rfl) (by kernel_rfl) (fun _ _ _ h => h) rfl (fun _ => by go_simp) (by assumption) ?_; simp only [Act.put, sS0, sS1, sS2]
                  refine wpAnyH_cell 1 (v := .slice (some ⟨gr, orr, none⟩) o.n2 o.c2) rfl rfl (fun w' h => by
                    have hc := (((HQ.out w' h).at_ 3 rfl).cell 1).trans (show _ = some (.slice (some ⟨gr, orr, none⟩) o.n2 o.c2) by rw [← HAR.out]; rfl)
                    go_simp) (by kernel_rfl) (by kernel_rfl) (by kernel_rfl) (fun _ _ _ h => h) (by assumption) ?_
                  simp only [Act.put, sS0, sS1, sS2]; refine wpAnyH_pure 2 (v := .pointer (some ⟨g2, 0, none⟩)) rfl (by kernel_rfl) (by kernel_rfl) (by kernel_rfl) (fun _ _ _ h => h) rfl (fun _ => by go_simp) (by assumption) ?_; simp only [Act.put, sS0, sS1, sS2]
                  refine wpAnyH_cell 3 (v := .int .i64 (rk : Int)) rfl rfl (fun w' h => by
                    have hc := ((HQ.out w' h).at_ 1 rfl).cell 0
                    go_simp) (by kernel_rfl) (by kernel_rfl) (by kernel_rfl) (fun _ _ _ h => h) (by assumption) ?_
                  simp only [Act.put, sS0, sS1, sS2]; refine wpAnyH_pure 4 (v := .pointer (some ⟨gr, orr + rk * 6, none⟩)) rfl (by kernel_rfl) (by kernel_rfl) (by kernel_rfl) (fun _ _ _ h => h) rfl (fun _ => by go_simp) (by assumption) ?_; simp only [Act.put, sS0, sS1, sS2]; refine wpAnyH_load 5 97 (.tmp 63) rfl rfl rfl gr (orr + rk * 6) rfl #[.string x.nm, .int .i64 x.kd, .int .i64 x.fn, .int .i64 x.fd, .int .i64 x.lo, .int .i64 x.ct] _ (fun w' h => HXR.out w' (HQ.out w' h).bl) Tryz.underlying97 rfl (by kernel_rfl) (by kernel_rfl) (by kernel_rfl) (by kernel_rfl) (fun _ _ _ h => h) (by assumption) ?_; simp only [Act.put, sS0, sS1, sS2]; refine wpAnyH_pure 6 (v := .int .i64 key) rfl (by kernel_rfl) (by kernel_rfl) (by kernel_rfl) (fun _ _ _ h => h) rfl (fun _ => rfl) (by assumption) ?_; simp only [Act.put, sS0, sS1, sS2]; refine wpAnyH_pure 7 (v := .pointer (some ⟨g2, 1, none⟩)) rfl (by kernel_rfl) (by kernel_rfl) (by kernel_rfl) (fun _ _ _ h => h) rfl (fun _ => by go_simp) (by assumption) ?_; simp only [Act.put, sS0, sS1, sS2]
                  refine wpAnyH_cell 8 (v := .int .i64 sh) rfl rfl (fun w' h => by
                    have hc := ((HQ.out w' h).at_ 1 rfl).cell 1
                    go_simp) (by kernel_rfl) (by kernel_rfl) (by kernel_rfl) (fun _ _ _ h => h) (by assumption) ?_
                  simp only [Act.put, sS0, sS1, sS2]; refine wpAnyH_pure 9 (v := .int .i64 (key + sh)) rfl (by kernel_rfl) (by kernel_rfl) (by kernel_rfl) (fun _ _ _ h => h) rfl (fun _ => by go_simp) (by assumption) ?_; simp only [Act.put, sS0, sS1, sS2]; refine wpAnyH_one 10 rfl (by kernel_rfl) rfl (fun K hK => ?_); go_simp; go_at_call 130
                  (with_reducible refine (HH.out _).mono ?_)
                  rintro e4 w4 ⟨rfl, hb4⟩; have hb5 : Below wr.heap.size wr w4 := HS0.out.trans (hb4.mono HS0.out.size); have HB5 : Sl _ := ⟨hb5⟩; clear hb4 hb5; refine hK.out _ _ HB5.out (fun hHeld => ?_); clear hK K
                  (try simp only [Act.put, sS0, sS1, sS2])
                  refine wpAnyH_pure 11 (v := .bool (!bb)) rfl (by kernel_rfl) (by kernel_rfl) (by kernel_rfl) (fun _ _ _ h => h) rfl (fun _ => by go_simp) (by assumption) ?_; simp only [Act.put, sS0, sS1, sS2]; refine wpAnyH_done (by kernel_rfl) ?_ _; clear hHeld
                  cases bb with
                  | true =>
                    have hin := of_decide_eq_true HBB.out; go_wp2_with fail
                    exact ⟨⟨key + 1, by omega, by have := HKP.out; omega, by go_num, ⟨HD.out.below HB5.out⟩, ⟨fun j h1 h2 => by
                      rcases Int.lt_or_le j key with h3 | h3
                      · exact HK.out j h1 h3
                      · obtain rfl : j = key := (by omega)
                        exact hin⟩⟩, by have := HKP.out; simp [RowKit.intOf]; omega⟩
                  | false =>
                    have hin := of_decide_eq_false HBB.out; have HV : Sl (r = 4) := ⟨by rw [HE.out, if_pos]; have := HKP.out; have := HXB.out; omega⟩; clear HE hin; go_wp2_with fail; go_ret; exact ⟨by first | (rw [HV.out]; rfl) | rw [HV.out], HD.out.bl.trans (HB5.out.mono HD.out.bl.size)⟩
                · have hkd : decide (key ≤ phi) = false := decide_eq_false hkp
                  have HV : Sl (r = 0) := ⟨by
                    have h1 := HK.out plo (Int.le_refl _) (by omega); have h2 := HK.out phi (by omega) (by omega)
                    rw [HE.out, if_neg]; omega⟩
                  clear HE; go_wp2_with fail; go_ret; exact ⟨by first | (rw [HV.out]; rfl) | rw [HV.out], HD.out.bl⟩
end Go.Proofs.YtbaojmfkjpnfhaaGreatDoor
namespace Go.Proofs.YtbaojmfkjpnfhaaGreatDoor
set_option linter.unusedSimpArgs false
open Go.RowKit
set_option linter.unusedVariables false
theorem fstE_succ (f : Nat → Int) {n k : Nat} (h : k < n) : fstE f (n - k) k = if f k = 0 then fstE f (n - (k + 1)) (k + 1) else f k := by
  rw [show n - k = (n - (k + 1)) + 1 by omega]; rfl
theorem rdv_bd {o : SpO} (h1 : o.ds.length = o.n1) (h : fstE (rdvE o) o.n1 0 = 0) : ∀ d ∈ o.ds, 0 ≤ d.lo ∧ d.hi ≤ 1000 := fun d hd => by
  obtain ⟨i, hi, e⟩ := List.getElem_of_mem hd; have := fstE_zero h i (Nat.zero_le _) (by omega); unfold rdvE at this; rw [List.getElem?_eq_getElem hi, e] at this; simp only [Option.getD_some] at this
  split at this
  · split at this
    · cases this
    · split at this
      · rename_i h3; unfold wiB at h3; simp at h3; omega
      · cases this
  · cases this
theorem rrk_bd {o : SpO} (h1 : o.rs.length = o.n2) (h : fstE (rrkE o) o.n2 0 = 0) : ∀ r ∈ o.rs, (0 ≤ r.lo ∧ r.lo ≤ 1000) ∧ 0 ≤ r.ct ∧ r.ct ≤ 1000 := fun d hd => by
  obtain ⟨i, hi, e⟩ := List.getElem_of_mem hd; have := fstE_zero h i (Nat.zero_le _) (by omega); unfold rrkE at this; rw [List.getElem?_eq_getElem hi, e] at this; simp only [Option.getD_some] at this
  split at this
  · split at this
    · cases this
    · split at this
      · split at this
        · rename_i h3; unfold wiB at h3; simp at h3; omega
        · cases this
      · cases this
  · cases this
theorem rst_dv {o : SpO} {i : Nat} {x : SpV} (hx : o.ss[i]? = some x) (h : rstE o i = 0) : 0 ≤ x.dv ∧ x.dv < (o.n1 : Int) := by
  unfold rstE at h; rw [hx] at h; simp only [Option.getD_some] at h
  split at h
  · cases h
  · split at h
    · cases h
    · rename_i h2; have : wiB x.dv 0 ((o.n1 : Int) - 1) = true := (by simpa using h2); have := wi_iff.1 this; omega
set_option maxHeartbeats 6400000 in
set_option maxRecDepth 100000 in
theorem rcheck_any (o : SpO) (w : World) (hM : SpM w o) (hF : SpF o) :
    Calls Tryz.prog 39 #[.agg #[.slice o.A1 o.n1 o.c1, .slice o.A2 o.n2 o.c2, .slice o.A3 o.n3 o.c3, .slice o.A4 o.n4 o.c4]] w fun e w' => SpecR o e ∧ Below w.heap.size w w' := by
  have hlen : o.ds.length = o.n1 ∧ o.rs.length = o.n2 ∧ o.ss.length = o.n3 ∧ o.cs.length = o.n4 := ⟨hM.d.len, hM.r.len, hM.s.len, hM.c.len⟩; have hRE := refE_specE o hlen.1 hlen.2.1 hlen.2.2.1 hlen.2.2.2; have HD : Sl (Lg w w []) := ⟨Lg.nil w⟩; unfold SpecR; obtain ⟨r, hr⟩ : ∃ r, specE o = r := ⟨_, rfl⟩; rw [hr] at hRE ⊢; have HLEN : Sl _ := ⟨hlen⟩; have HM : Sl _ := ⟨hM⟩; have HF : Sl _ := ⟨hF⟩
  have HE : Sl (r = if 6 < o.n1 ∨ 40 < o.n2 ∨ 80 < o.n3 ∨ 24 < o.n4 then 3
    else if fstE (rdvE o) o.n1 0 = 0 then (if fstE (rrkE o) o.n2 0 = 0 then (if fstE (rsaE o) o.n3 0 = 0 then fstE (rcpE o) o.n4 0 else fstE (rsaE o) o.n3 0) else fstE (rrkE o) o.n2 0) else fstE (rdvE o) o.n1 0) := ⟨hRE.symm⟩
  obtain ⟨X1, h1⟩ : ∃ X, fstE (rdvE o) o.n1 0 = X := ⟨_, rfl⟩; obtain ⟨X2, h2⟩ : ∃ X, fstE (rrkE o) o.n2 0 = X := ⟨_, rfl⟩; obtain ⟨X3, h3⟩ : ∃ X, fstE (rsaE o) o.n3 0 = X := ⟨_, rfl⟩; obtain ⟨X4, h4⟩ : ∃ X, fstE (rcpE o) o.n4 0 = X := ⟨_, rfl⟩; have H1 : Sl _ := ⟨h1⟩; have H2 : Sl _ := ⟨h2⟩; have H3 : Sl _ := ⟨h3⟩; have H4 : Sl _ := ⟨h4⟩; rw [h1, h2, h3, h4] at HE; clear hM hF hlen hRE hr h1 h2 h3 h4; go_enter Tryz.func39, Tryz.ntmps39
  go_upto_region 1 with ((with_reducible show wpList _ _ _ _ _ _); first
    | (refine wpList_box_new 1 rfl rfl 27 (.tmp 0) rfl #[.slice o.A1 o.n1 o.c1, .slice o.A2 o.n2 o.c2, .slice o.A3 o.n3 o.c3, .slice o.A4 o.n4 o.c4] rfl (fun _ => by kernel_rfl) ?_; rintro w1 g1 zg zm zs zb; replace HD : Sl _ := ⟨HD.out.new zg zm zb⟩; clear zg zm zs zb)
    | (refine wpList_alloc_new 2 rfl rfl 80 rfl #[.int .i64 0, .int .i64 0, .int .i64 0] (fun _ => by kernel_rfl) ?_; rintro w2 g2 zg zm zs zb; replace HD : Sl _ := ⟨HD.out.new zg zm zb⟩; clear zg zm zs zb))
  have c0 : w2.cell? ⟨g1, 0, none⟩ = some (.slice o.A1 o.n1 o.c1) := (HD.out.at_ 1 rfl).cell 0; have c1 : w2.cell? ⟨g1, 1, none⟩ = some (.slice o.A2 o.n2 o.c2) := (HD.out.at_ 1 rfl).cell 1; have c2 : w2.cell? ⟨g1, 2, none⟩ = some (.slice o.A3 o.n3 o.c3) := (HD.out.at_ 1 rfl).cell 2; have c3 : w2.cell? ⟨g1, 3, none⟩ = some (.slice o.A4 o.n4 o.c4) := (HD.out.at_ 1 rfl).cell 3
  by_cases b0 : 6 < o.n1
  · have p0 : (6 : Int) < (o.n1 : Int) := (by omega); have p0d : decide ((6 : Int) < (o.n1 : Int)) = true := decide_eq_true p0; have HV : Sl (r = 3) := ⟨by rw [HE.out, if_pos (.inl b0)]⟩; clear HE
    go_wp2_with ((with_reducible show wpList _ _ _ _ _ _); first
      | (refine wpList_store_whole rfl 80 (.tmp 2) (.tmp 36) rfl g2 #[.int .i64 0, .int .i64 0, .int .i64 0] rfl rfl 80 _ (HD.out.at_ 0 rfl) rfl (by kernel_rfl) (by simp [Value.oneCell']) ?_; rintro w9 zm zs zb; have HZ : Sl _ := ⟨HD.out.set 0 rfl zm zb⟩; clear zm zs zb))
    (try simp only [Exit.inBlock, Exit.then])
    refine bodyPost_ret (results_row2c rfl _ _ g2 _ _ _ rfl (HZ.out.at_ 0 rfl) Tryz.underlying80 rfl (by kernel_rfl)) rfl ?_; exact ⟨⟨_, _, _, by rw [HV.out]; rfl⟩, HZ.out.bl⟩
  have p0 : ¬ (6 : Int) < (o.n1 : Int) := (by omega); have p0d : decide ((6 : Int) < (o.n1 : Int)) = false := decide_eq_false p0
  by_cases b1 : 40 < o.n2
  · have p1 : (40 : Int) < (o.n2 : Int) := (by omega); have p1d : decide ((40 : Int) < (o.n2 : Int)) = true := decide_eq_true p1; have HV : Sl (r = 3) := ⟨by rw [HE.out, if_pos (.inr (.inl b1))]⟩; clear HE
    go_wp2_with ((with_reducible show wpList _ _ _ _ _ _); first
      | (refine wpList_store_whole rfl 80 (.tmp 2) (.tmp 36) rfl g2 #[.int .i64 0, .int .i64 0, .int .i64 0] rfl rfl 80 _ (HD.out.at_ 0 rfl) rfl (by kernel_rfl) (by simp [Value.oneCell']) ?_; rintro w9 zm zs zb; have HZ : Sl _ := ⟨HD.out.set 0 rfl zm zb⟩; clear zm zs zb))
    (try simp only [Exit.inBlock, Exit.then])
    refine bodyPost_ret (results_row2c rfl _ _ g2 _ _ _ rfl (HZ.out.at_ 0 rfl) Tryz.underlying80 rfl (by kernel_rfl)) rfl ?_; exact ⟨⟨_, _, _, by rw [HV.out]; rfl⟩, HZ.out.bl⟩
  have p1 : ¬ (40 : Int) < (o.n2 : Int) := (by omega); have p1d : decide ((40 : Int) < (o.n2 : Int)) = false := decide_eq_false p1
  by_cases b2 : 80 < o.n3
  · have p2 : (80 : Int) < (o.n3 : Int) := (by omega); have p2d : decide ((80 : Int) < (o.n3 : Int)) = true := decide_eq_true p2; have HV : Sl (r = 3) := ⟨by rw [HE.out, if_pos (.inr (.inr (.inl b2)))]⟩; clear HE
    go_wp2_with ((with_reducible show wpList _ _ _ _ _ _); first
      | (refine wpList_store_whole rfl 80 (.tmp 2) (.tmp 36) rfl g2 #[.int .i64 0, .int .i64 0, .int .i64 0] rfl rfl 80 _ (HD.out.at_ 0 rfl) rfl (by kernel_rfl) (by simp [Value.oneCell']) ?_; rintro w9 zm zs zb; have HZ : Sl _ := ⟨HD.out.set 0 rfl zm zb⟩; clear zm zs zb))
    (try simp only [Exit.inBlock, Exit.then])
    refine bodyPost_ret (results_row2c rfl _ _ g2 _ _ _ rfl (HZ.out.at_ 0 rfl) Tryz.underlying80 rfl (by kernel_rfl)) rfl ?_; exact ⟨⟨_, _, _, by rw [HV.out]; rfl⟩, HZ.out.bl⟩
  have p2 : ¬ (80 : Int) < (o.n3 : Int) := (by omega); have p2d : decide ((80 : Int) < (o.n3 : Int)) = false := decide_eq_false p2
  by_cases b3 : 24 < o.n4
  · have p3 : (24 : Int) < (o.n4 : Int) := (by omega); have p3d : decide ((24 : Int) < (o.n4 : Int)) = true := decide_eq_true p3; have HV : Sl (r = 3) := ⟨by rw [HE.out, if_pos (.inr (.inr (.inr b3)))]⟩; clear HE
    go_wp2_with ((with_reducible show wpList _ _ _ _ _ _); first
      | (refine wpList_store_whole rfl 80 (.tmp 2) (.tmp 36) rfl g2 #[.int .i64 0, .int .i64 0, .int .i64 0] rfl rfl 80 _ (HD.out.at_ 0 rfl) rfl (by kernel_rfl) (by simp [Value.oneCell']) ?_; rintro w9 zm zs zb; have HZ : Sl _ := ⟨HD.out.set 0 rfl zm zb⟩; clear zm zs zb))
    (try simp only [Exit.inBlock, Exit.then])
    refine bodyPost_ret (results_row2c rfl _ _ g2 _ _ _ rfl (HZ.out.at_ 0 rfl) Tryz.underlying80 rfl (by kernel_rfl)) rfl ?_; exact ⟨⟨_, _, _, by rw [HV.out]; rfl⟩, HZ.out.bl⟩
  have p3 : ¬ (24 : Int) < (o.n4 : Int) := (by omega); have p3d : decide ((24 : Int) < (o.n4 : Int)) = false := decide_eq_false p3; have HN : Sl (o.n1 ≤ 6 ∧ o.n2 ≤ 40 ∧ o.n3 ≤ 80 ∧ o.n4 ≤ 24) := ⟨by omega⟩; rw [if_neg (by omega)] at HE; go_wp2_with fail; clear c0 c1 c2 c3 p0 p1 p2 p3 p0d p1d p2d p3d b0 b1 b2 b3
  go_loopw [4] (fun s6 wv => ∃ k : Nat, k ≤ o.n1 ∧ s6 = .int .i64 (k : Int) ∧ Sl (Lg w wv [(g2, 80, #[.int .i64 0, .int .i64 0, .int .i64 0]), (g1, 27, #[.slice o.A1 o.n1 o.c1, .slice o.A2 o.n2 o.c2, .slice o.A3 o.n3 o.c3, .slice o.A4 o.n4 o.c4])]) ∧ Sl (fstE (rdvE o) (o.n1 - k) k = X1)) (fun s6 _ => o.n1 - (RowKit.intOf s6).toNat)
  case atStart => exact ⟨0, Nat.zero_le _, rfl, HD, ⟨H1.out⟩⟩
  case round =>
    clear HD; obtain ⟨k, hk, rfl, HD, HK⟩ := hrel; have c0 : wr.cell? ⟨g1, 0, none⟩ = some (.slice o.A1 o.n1 o.c1) := (HD.out.at_ 1 rfl).cell 0; have hn80 : (o.n1 : Int) ≤ 80 := (by have := HN.out; omega)
    by_cases hkn : k < o.n1
    · have hkI : decide ((k : Int) < (o.n1 : Int)) = true := decide_eq_true (by omega); have hkI2 : (k : Int) < (o.n1 : Int) := (by omega); have HKN : Sl (k < o.n1) := ⟨hkn⟩; have HSU := fstE_succ (rdvE o) hkn; rw [HK.out] at HSU; have HS2 : Sl _ := ⟨HSU⟩; clear HSU
      go_wp2_with ((with_reducible show wpList _ _ _ _ _ _); first
        | (refine wpList_load_whole rfl 27 (.tmp 1) rfl g1 rfl 27 _ _ (HD.out.at_ 1 rfl) Tryz.underlying27 rfl (by kernel_rfl) ?_))
      refine (rdivision_any o k wr (HM.out.below HD.out.bl) HF.out HKN.out (by have := HN.out; omega)).mono ?_; rintro e w5 ⟨rfl, hb5⟩; replace HD : Sl _ := ⟨HD.out.below hb5⟩; clear hb5 c0; obtain ⟨z, hz⟩ : ∃ z, rdvE o k = z := ⟨_, rfl⟩; rw [hz] at HS2 ⊢; clear hz
      by_cases hz0 : z = 0
      · subst hz0; rw [if_pos rfl] at HS2; have HS3 : Sl _ := ⟨HS2.out.symm⟩; have hzz : ((0 : Int) != 0) = false := (by decide); go_wp2_with fail; exact ⟨⟨k + 1, hkn, by go_num, HD, HS3⟩, by simp [RowKit.intOf]; omega⟩
      · rw [if_neg hz0] at HS2; have hzz : (z != 0) = true := (by simpa using hz0); have HV : Sl (r = z) := ⟨by rw [HE.out, HS2.out]; rw [if_neg hz0]⟩; clear HE hz0
        go_wp2_with ((with_reducible show wpList _ _ _ _ _ _); first
          | (refine wpList_store_whole rfl 80 (.tmp 2) (.tmp 50) rfl g2 #[.int .i64 1, .int .i64 (k : Int), .int .i64 0] rfl rfl 80 _ (HD.out.at_ 0 rfl) rfl (by kernel_rfl) (by simp [Value.oneCell']) ?_; rintro w9 zm zs zb; have HZ : Sl _ := ⟨HD.out.set 0 rfl zm zb⟩; clear zm zs zb))
        (try simp only [Exit.inBlock, Exit.then])
        refine bodyPost_ret (results_row2c rfl _ _ g2 _ _ _ rfl (HZ.out.at_ 0 rfl) Tryz.underlying80 rfl (by kernel_rfl)) rfl ?_; exact ⟨⟨_, _, _, by rw [HV.out]; rfl⟩, HZ.out.bl⟩
    · obtain rfl : o.n1 = k := (by omega); have hkI : decide ((o.n1 : Int) < (o.n1 : Int)) = false := (by simp); have hX1 : X1 = 0 := (by rw [← HK.out, Nat.sub_self]; rfl); subst hX1; rw [if_pos rfl] at HE; have HDB : Sl _ := ⟨rdv_bd HLEN.out.1 H1.out⟩; clear HK hkn hk; go_wp2_with fail; clear c0 hkI
      go_loopw [6] (fun s6 wv => ∃ k : Nat, k ≤ o.n2 ∧ s6 = .int .i64 (k : Int) ∧ Sl (Lg w wv [(g2, 80, #[.int .i64 0, .int .i64 0, .int .i64 0]), (g1, 27, #[.slice o.A1 o.n1 o.c1, .slice o.A2 o.n2 o.c2, .slice o.A3 o.n3 o.c3, .slice o.A4 o.n4 o.c4])]) ∧ Sl (fstE (rrkE o) (o.n2 - k) k = X2)) (fun s6 _ => o.n2 - (RowKit.intOf s6).toNat)
      case atStart => exact ⟨0, Nat.zero_le _, rfl, HD, ⟨H2.out⟩⟩
      case round =>
        clear HD; obtain ⟨k, hk, rfl, HD, HK⟩ := hrel; have c0 : wr.cell? ⟨g1, 1, none⟩ = some (.slice o.A2 o.n2 o.c2) := (HD.out.at_ 1 rfl).cell 1; have hn80 : (o.n2 : Int) ≤ 80 := (by have := HN.out; omega)
        by_cases hkn : k < o.n2
        · have hkI : decide ((k : Int) < (o.n2 : Int)) = true := decide_eq_true (by omega); have hkI2 : (k : Int) < (o.n2 : Int) := (by omega); have HKN : Sl (k < o.n2) := ⟨hkn⟩; have HSU := fstE_succ (rrkE o) hkn; rw [HK.out] at HSU; have HS2 : Sl _ := ⟨HSU⟩; clear HSU
          go_wp2_with ((with_reducible show wpList _ _ _ _ _ _); first
            | (refine wpList_load_whole rfl 27 (.tmp 1) rfl g1 rfl 27 _ _ (HD.out.at_ 1 rfl) Tryz.underlying27 rfl (by kernel_rfl) ?_))
          refine (rrank_any o k wr (HM.out.below HD.out.bl) HF.out HKN.out (by have := HN.out; omega)).mono ?_; rintro e w5 ⟨rfl, hb5⟩; replace HD : Sl _ := ⟨HD.out.below hb5⟩; clear hb5 c0; obtain ⟨z, hz⟩ : ∃ z, rrkE o k = z := ⟨_, rfl⟩; rw [hz] at HS2 ⊢; clear hz
          by_cases hz0 : z = 0
          · subst hz0; rw [if_pos rfl] at HS2; have HS3 : Sl _ := ⟨HS2.out.symm⟩; have hzz : ((0 : Int) != 0) = false := (by decide); go_wp2_with fail; exact ⟨⟨k + 1, hkn, by go_num, HD, HS3⟩, by simp [RowKit.intOf]; omega⟩
          · rw [if_neg hz0] at HS2; have hzz : (z != 0) = true := (by simpa using hz0); have HV : Sl (r = z) := ⟨by rw [HE.out, HS2.out]; rw [if_neg hz0]⟩; clear HE hz0
            go_wp2_with ((with_reducible show wpList _ _ _ _ _ _); first
              | (refine wpList_store_whole rfl 80 (.tmp 2) (.tmp 65) rfl g2 #[.int .i64 2, .int .i64 (k : Int), .int .i64 0] rfl rfl 80 _ (HD.out.at_ 0 rfl) rfl (by kernel_rfl) (by simp [Value.oneCell']) ?_; rintro w9 zm zs zb; have HZ : Sl _ := ⟨HD.out.set 0 rfl zm zb⟩; clear zm zs zb))
            (try simp only [Exit.inBlock, Exit.then])
            refine bodyPost_ret (results_row2c rfl _ _ g2 _ _ _ rfl (HZ.out.at_ 0 rfl) Tryz.underlying80 rfl (by kernel_rfl)) rfl ?_; exact ⟨⟨_, _, _, by rw [HV.out]; rfl⟩, HZ.out.bl⟩
        · obtain rfl : o.n2 = k := (by omega); have hkI : decide ((o.n2 : Int) < (o.n2 : Int)) = false := (by simp); have hX2 : X2 = 0 := (by rw [← HK.out, Nat.sub_self]; rfl); subst hX2; rw [if_pos rfl] at HE; have HRB : Sl _ := ⟨rrk_bd HLEN.out.2.1 H2.out⟩; clear HK hkn hk; go_wp2_with fail; clear c0 hkI
          go_loopw [8] (fun s6 wv => ∃ k : Nat, k ≤ o.n3 ∧ s6 = .int .i64 (k : Int) ∧ Sl (Lg w wv [(g2, 80, #[.int .i64 0, .int .i64 0, .int .i64 0]), (g1, 27, #[.slice o.A1 o.n1 o.c1, .slice o.A2 o.n2 o.c2, .slice o.A3 o.n3 o.c3, .slice o.A4 o.n4 o.c4])]) ∧ Sl (fstE (rsaE o) (o.n3 - k) k = X3)) (fun s6 _ => o.n3 - (RowKit.intOf s6).toNat)
          case atStart => exact ⟨0, Nat.zero_le _, rfl, HD, ⟨H3.out⟩⟩
          case round =>
            clear HD; obtain ⟨k, hk, rfl, HD, HK⟩ := hrel; have c0 : wr.cell? ⟨g1, 2, none⟩ = some (.slice o.A3 o.n3 o.c3) := (HD.out.at_ 1 rfl).cell 2; have hn80 : (o.n3 : Int) ≤ 80 := (by have := HN.out; omega)
            by_cases hkn : k < o.n3
            · have hkI : decide ((k : Int) < (o.n3 : Int)) = true := decide_eq_true (by omega); have hkI2 : (k : Int) < (o.n3 : Int) := (by omega); have HKN : Sl (k < o.n3) := ⟨hkn⟩; have HSU := fstE_succ (rsaE o) hkn; rw [HK.out] at HSU; have HS2 : Sl _ := ⟨HSU⟩; clear HSU
              go_wp2_with ((with_reducible show wpList _ _ _ _ _ _); first
                | (refine wpList_load_whole rfl 27 (.tmp 1) rfl g1 rfl 27 _ _ (HD.out.at_ 1 rfl) Tryz.underlying27 rfl (by kernel_rfl) ?_))
              refine (rstop_any o k wr (HM.out.below HD.out.bl) HF.out HKN.out (by have := HN.out; omega) (by have := HN.out; omega)).mono ?_; rintro e w5 ⟨rfl, hb5⟩; replace HD : Sl _ := ⟨HD.out.below hb5⟩; clear hb5 c0; have hx0 : ∃ x, o.ss[k]? = some x := ⟨_, List.getElem?_eq_getElem (by rw [HLEN.out.2.2.1]; exact hkn)⟩; obtain ⟨x, hx⟩ := hx0; have HX : Sl _ := ⟨hx⟩; have HRA : Sl (rsaE o k = if rstE o k = 0 then fstE (fun j => prtE o.rs (o.ds[x.dv.toNat]?.getD dv0) (x.ps[j]?.getD pr0)) x.ps.length 0 else rstE o k) := ⟨by unfold rsaE; rw [hx]; rfl⟩; have HDV : Sl (rstE o k = 0 → 0 ≤ x.dv ∧ x.dv < (o.n1 : Int)) := ⟨rst_dv hx⟩; obtain ⟨z, hz⟩ : ∃ z, rstE o k = z := ⟨_, rfl⟩; rw [hz] at HRA HDV ⊢; clear hz hx
              by_cases hz0 : z = 0
              · subst hz0; rw [if_pos rfl] at HRA; have hzz : ((0 : Int) != 0) = false := (by decide); have hdv := HDV.out rfl; obtain ⟨Y, hY⟩ : ∃ Y, rsaE o k = Y := ⟨_, rfl⟩; rw [hY] at HRA HS2; clear HDV hY; obtain ⟨nm, dv, fn, fd, PA, pn, pc, ps⟩ := x; simp only [] at HRA HX hdv; obtain ⟨dv, rfl⟩ := Int.eq_ofNat_of_zero_le hdv.1; rw [Int.toNat_natCast] at HRA; have HDV : Sl (dv < o.n1) := ⟨by omega⟩; have HPM : Sl _ := ⟨HM.out.p _ (List.mem_of_getElem? HX.out)⟩; have HPF : Sl _ := ⟨HF.out.s _ (List.mem_of_getElem? HX.out)⟩; have HPL : Sl (ps.length = pn) := ⟨HPM.out.len⟩; rw [HPL.out] at HRA; obtain ⟨gs, os, hAs, hgs, halls⟩ := HM.out.s.all_ (by decide) (show 0 < o.n3 by omega); have HAS : Sl _ := ⟨hAs⟩
                have HSR : Sl (∀ W, Below w.heap.size w W → W.rangeAt gs (os + k * 5) [.string nm, .int .i64 (dv : Int), .int .i64 fn, .int .i64 fd, .slice PA pn pc]) := ⟨fun W hW => by
                  obtain ⟨x2, hx2, h2⟩ := halls W hW k HKN.out; rw [HX.out] at hx2; injection hx2 with hx2
                  subst hx2
                  exact h2⟩
                have hk0 : (0 : Int) ≤ (k : Int) := (by omega); clear hdv hAs hgs halls; go_wp2_with fail
                go_loopw [10] (fun s10 wv => ∃ j : Nat, j ≤ pn ∧ s10 = .int .i64 (j : Int) ∧ Sl (Lg w wv [(g2, 80, #[.int .i64 0, .int .i64 0, .int .i64 0]), (g1, 27, #[.slice o.A1 o.n1 o.c1, .slice o.A2 o.n2 o.c2, .slice o.A3 o.n3 o.c3, .slice o.A4 o.n4 o.c4])]) ∧ Sl (fstE (fun j => prtE o.rs (o.ds[dv]?.getD dv0) (ps[j]?.getD pr0)) (pn - j) j = Y)) (fun s10 _ => pn - (RowKit.intOf s10).toNat)
                case atStart => exact ⟨0, Nat.zero_le _, rfl, HD, ⟨HRA.out.symm⟩⟩
                case round =>
                  clear HD; obtain ⟨j, hj, rfl, HD, HJ⟩ := hrel; have c0 : wr.cell? ⟨g1, 2, none⟩ = some (.slice (some ⟨gs, os, none⟩) o.n3 o.c3) := (by rw [← HAS.out]; exact (HD.out.at_ 1 rfl).cell 2); have c4 : wr.cell? ⟨gs, os + k * 5 + 4, none⟩ = some (.slice PA pn pc) := HSR.out _ HD.out.bl 4 _ rfl; have hpn : (pn : Int) ≤ 9223372036854775807 := (by have := HPF.out.2.2.2.2.1; unfold maxLen at this; omega)
                  by_cases hjn : j < pn
                  · have hjI : decide ((j : Int) < (pn : Int)) = true := decide_eq_true (by omega); have hjI2 : (j : Int) < (pn : Int) := (by omega); have hj0 : (0 : Int) ≤ (j : Int) := (by omega); have HJU := fstE_succ (fun j => prtE o.rs (o.ds[dv]?.getD dv0) (ps[j]?.getD pr0)) hjn; rw [HJ.out] at HJU; obtain ⟨gp, op, hAp, hgp, hallp⟩ := HPM.out.all_ (by decide) (show 0 < pn by omega); obtain ⟨p, hp, _⟩ := hallp w (Below.refl _ _) j hjn
                    have HPR : Sl (∀ W, Below w.heap.size w W → W.rangeAt gp (op + j * 4) [.int .i64 p.rk, .int .i64 p.sh, .int .i64 p.lo, .int .i64 p.hi]) := ⟨fun W hW => by
                      obtain ⟨x2, hx2, h2⟩ := hallp W hW j hjn; have hx3 : some p = some x2 := hp.symm.trans hx2; injection hx3 with hx3
                      subst hx3
                      exact h2⟩
                    (try simp only [] at hp hAp)
                    rw [hp, Option.getD_some] at HJU; have HJ2 : Sl _ := ⟨HJU⟩; have HAP : Sl (PA = some ⟨gp, op, none⟩) := ⟨hAp⟩; have HRK : Sl (i64 p.rk) := ⟨(HPF.out.2.2.2.2.2 p (List.mem_of_getElem? hp)).1⟩; have HJN : Sl (j < pn) := ⟨hjn⟩; obtain ⟨y, hy⟩ : ∃ y, prtE o.rs (o.ds[dv]?.getD dv0) p = y := ⟨_, rfl⟩; have HY : Sl _ := ⟨hy⟩; rw [hy] at HJ2; have hS0 : Below wr.heap.size wr wr.drew := below_drewN (Below.refl _ _) 1; have HS0 : Sl _ := ⟨hS0⟩; have HQ : Sl (∀ W, Below wr.heap.size wr W → Lg w W [(g2, 80, #[.int .i64 0, .int .i64 0, .int .i64 0]), (g1, 27, #[.slice o.A1 o.n1 o.c1, .slice o.A2 o.n2 o.c2, .slice o.A3 o.n3 o.c3, .slice o.A4 o.n4 o.c4])]) := ⟨fun W hW => HD.out.below hW⟩; clear hp hAp hallp HJU hgp hy; go_wp2_with fail; clear c0 c4; have hm := hS0; refine wp_region_held_drew (S := fun w' => Below wr.heap.size wr w') (by kernel_rfl) hm (fun hHeld => ?_); clear hm
                    refine wpAnyH_load 0 27 (.tmp 1) rfl rfl rfl g1 0 rfl #[.slice o.A1 o.n1 o.c1, .slice o.A2 o.n2 o.c2, .slice o.A3 o.n3 o.c3, .slice o.A4 o.n4 o.c4] _ (fun w' h => by
                      have := World.rangeAt_of_block ((HQ.out w' h).at_ 1 rfl) 0 4
                      exact this) Tryz.underlying27 rfl (by kernel_rfl) (by kernel_rfl) (by kernel_rfl) (by kernel_rfl) (fun _ _ _ h => h) (by assumption) ?_
                    simp only [Act.put, sS0, sS1, sS2]; refine wpAnyH_pure 1 (v := .pointer (some ⟨g1, 2, none⟩)) rfl (by kernel_rfl) (by kernel_rfl) (by kernel_rfl) (fun _ _ _ h => h) rfl (fun _ => by go_simp) (by assumption) ?_; simp only [Act.put, sS0, sS1, sS2]
                    refine wpAnyH_cell 2 (v := .slice (some ⟨gs, os, none⟩) o.n3 o.c3) rfl rfl (fun w' h => by
                      have hc := (((HQ.out w' h).at_ 1 rfl).cell 2).trans (show _ = some (.slice (some ⟨gs, os, none⟩) o.n3 o.c3) by rw [← HAS.out]; rfl)
                      go_simp) (by kernel_rfl) (by kernel_rfl) (by kernel_rfl) (fun _ _ _ h => h) (by assumption) ?_
                    simp only [Act.put, sS0, sS1, sS2]; refine wpAnyH_pure 3 (v := .int .i64 (k : Int)) rfl (by kernel_rfl) (by kernel_rfl) (by kernel_rfl) (fun _ _ _ h => h) rfl (fun _ => rfl) (by assumption) ?_; simp only [Act.put, sS0, sS1, sS2]; refine wpAnyH_pure 4 (v := .pointer (some ⟨gs, os + k * 5, none⟩)) rfl (by kernel_rfl) (by kernel_rfl) (by kernel_rfl) (fun _ _ _ h => h) rfl (fun _ => by go_simp) (by assumption) ?_; simp only [Act.put, sS0, sS1, sS2]; refine wpAnyH_load 5 100 (.tmp 97) rfl rfl rfl gs (os + k * 5) rfl #[.string nm, .int .i64 (dv : Int), .int .i64 fn, .int .i64 fd, .slice PA pn pc] _ (fun w' h => HSR.out w' (HQ.out w' h).bl) Tryz.underlying100 rfl (by kernel_rfl) (by kernel_rfl) (by kernel_rfl) (by kernel_rfl) (fun _ _ _ h => h) (by assumption) ?_; simp only [Act.put, sS0, sS1, sS2]; refine wpAnyH_pure 6 (v := .pointer (some ⟨g1, 2, none⟩)) rfl (by kernel_rfl) (by kernel_rfl) (by kernel_rfl) (fun _ _ _ h => h) rfl (fun _ => by go_simp) (by assumption) ?_; simp only [Act.put, sS0, sS1, sS2]
                    refine wpAnyH_cell 7 (v := .slice (some ⟨gs, os, none⟩) o.n3 o.c3) rfl rfl (fun w' h => by
                      have hc := (((HQ.out w' h).at_ 1 rfl).cell 2).trans (show _ = some (.slice (some ⟨gs, os, none⟩) o.n3 o.c3) by rw [← HAS.out]; rfl)
                      go_simp) (by kernel_rfl) (by kernel_rfl) (by kernel_rfl) (fun _ _ _ h => h) (by assumption) ?_
                    simp only [Act.put, sS0, sS1, sS2]; refine wpAnyH_pure 8 (v := .int .i64 (k : Int)) rfl (by kernel_rfl) (by kernel_rfl) (by kernel_rfl) (fun _ _ _ h => h) rfl (fun _ => rfl) (by assumption) ?_; simp only [Act.put, sS0, sS1, sS2]; refine wpAnyH_pure 9 (v := .pointer (some ⟨gs, os + k * 5, none⟩)) rfl (by kernel_rfl) (by kernel_rfl) (by kernel_rfl) (fun _ _ _ h => h) rfl (fun _ => by go_simp) (by assumption) ?_; simp only [Act.put, sS0, sS1, sS2]; refine wpAnyH_pure 10 (v := .pointer (some ⟨gs, os + k * 5 + 4, none⟩)) rfl (by kernel_rfl) (by kernel_rfl) (by kernel_rfl) (fun _ _ _ h => h) rfl (fun _ => by go_simp) (by assumption) ?_; simp only [Act.put, sS0, sS1, sS2]
                    refine wpAnyH_cell 11 (v := .slice (some ⟨gp, op, none⟩) pn pc) rfl rfl (fun w' h => by
                      have hc := (HSR.out w' (HQ.out w' h).bl 4 _ rfl).trans (show _ = some (.slice (some ⟨gp, op, none⟩) pn pc) by rw [← HAP.out])
                      go_simp) (by kernel_rfl) (by kernel_rfl) (by kernel_rfl) (fun _ _ _ h => h) (by assumption) ?_
                    simp only [Act.put, sS0, sS1, sS2]; refine wpAnyH_pure 12 (v := .int .i64 (j : Int)) rfl (by kernel_rfl) (by kernel_rfl) (by kernel_rfl) (fun _ _ _ h => h) rfl (fun _ => rfl) (by assumption) ?_; simp only [Act.put, sS0, sS1, sS2]; refine wpAnyH_pure 13 (v := .pointer (some ⟨gp, op + j * 4, none⟩)) rfl (by kernel_rfl) (by kernel_rfl) (by kernel_rfl) (fun _ _ _ h => h) rfl (fun _ => by go_simp) (by assumption) ?_; simp only [Act.put, sS0, sS1, sS2]; refine wpAnyH_load 14 124 (.tmp 106) rfl rfl rfl gp (op + j * 4) rfl #[.int .i64 p.rk, .int .i64 p.sh, .int .i64 p.lo, .int .i64 p.hi] _ (fun w' h => HPR.out w' (HQ.out w' h).bl) Tryz.underlying124 rfl (by kernel_rfl) (by kernel_rfl) (by kernel_rfl) (by kernel_rfl) (fun _ _ _ h => h) (by assumption) ?_; simp only [Act.put, sS0, sS1, sS2]; refine wpAnyH_one 15 rfl (by kernel_rfl) rfl (fun K hK => ?_); go_simp; go_at_call 82
                    (with_reducible refine (rpart_any o nm dv fn fd PA pn pc p _ (HM.out.below (HQ.out _ HS0.out).bl) HDV.out (by have := HN.out; omega) (by have := HN.out; omega) HRB.out HDB.out HRK.out).mono ?_)
                    rintro e4 w4 ⟨rfl, hb4⟩; have hb5 : Below wr.heap.size wr w4 := HS0.out.trans (hb4.mono HS0.out.size); have HB5 : Sl _ := ⟨hb5⟩; clear hb4 hb5; rw [HY.out]; refine hK.out _ _ HB5.out (fun hHeld => ?_); clear hK K
                    (try simp only [Act.put, sS0, sS1, sS2])
                    refine wpAnyH_pure 16 (v := .int .i64 y) rfl (by kernel_rfl) (by kernel_rfl) (by kernel_rfl) (fun _ _ _ h => h) rfl (fun _ => rfl) (by assumption) ?_; simp only [Act.put, sS0, sS1, sS2]; refine wpAnyH_done (by kernel_rfl) ?_ _; clear hHeld; replace HD : Sl _ := ⟨HQ.out _ HB5.out⟩; clear HQ HS0
                    by_cases hy0 : y = 0
                    · subst hy0; rw [if_pos rfl] at HJ2; have HJ3 : Sl _ := ⟨HJ2.out.symm⟩; have hyy : ((0 : Int) != 0) = false := (by decide); go_wp2_with fail; exact ⟨⟨j + 1, HJN.out, by go_num, HD, HJ3⟩, by have := HJN.out; simp [RowKit.intOf]; omega⟩
                    · rw [if_neg hy0] at HJ2; have hyy : (y != 0) = true := (by simpa using hy0); have HV : Sl (r = y) := ⟨by rw [HE.out, HS2.out, HJ2.out, if_neg hy0, if_neg hy0]⟩; have hjw : IntKind.i64.wrap ((j : Int) + 1) = (j : Int) + 1 := (by rw [IntKind.wrap_i64]; omega); clear HE hy0
                      go_wp2_with ((with_reducible show wpList _ _ _ _ _ _); first
                        | (refine wpList_store_whole rfl 80 (.tmp 2) (.tmp 114) rfl g2 #[.int .i64 3, .int .i64 (k : Int), .int .i64 ((j : Int) + 1)] rfl rfl 80 _ (HD.out.at_ 0 rfl) rfl (by kernel_rfl) (by simp [Value.oneCell']) ?_; rintro w9 zm zs zb; have HZ : Sl _ := ⟨HD.out.set 0 rfl zm zb⟩; clear zm zs zb))
                      (try simp only [Exit.inBlock, Exit.then])
                      refine bodyPost_ret (results_row2c rfl _ _ g2 _ _ _ rfl (HZ.out.at_ 0 rfl) Tryz.underlying80 rfl (by kernel_rfl)) rfl ?_; exact ⟨⟨_, _, _, by rw [HV.out]; rfl⟩, HZ.out.bl⟩
                  · obtain rfl : pn = j := (by omega); have hjI : decide ((pn : Int) < (pn : Int)) = false := (by simp); have hY0 : Y = 0 := (by rw [← HJ.out, Nat.sub_self]; rfl); subst hY0; rw [if_pos rfl] at HS2; have HS3 : Sl _ := ⟨HS2.out.symm⟩; clear HJ hjn hj; go_wp2_with fail; exact ⟨⟨k + 1, HKN.out, by go_num, HD, HS3⟩, by have := HKN.out; simp [RowKit.intOf]; omega⟩
              · have HRZ : Sl (rsaE o k = z) := ⟨by rw [HRA.out, if_neg hz0]⟩; rw [HRZ.out, if_neg hz0] at HS2; have hzz : (z != 0) = true := (by simpa using hz0); have HV : Sl (r = z) := ⟨by rw [HE.out, HS2.out, if_neg hz0]⟩; clear HE hz0 HRA HRZ
                go_wp2_with ((with_reducible show wpList _ _ _ _ _ _); first
                  | (refine wpList_store_whole rfl 80 (.tmp 2) (.tmp 80) rfl g2 #[.int .i64 3, .int .i64 (k : Int), .int .i64 0] rfl rfl 80 _ (HD.out.at_ 0 rfl) rfl (by kernel_rfl) (by simp [Value.oneCell']) ?_; rintro w9 zm zs zb; have HZ : Sl _ := ⟨HD.out.set 0 rfl zm zb⟩; clear zm zs zb))
                (try simp only [Exit.inBlock, Exit.then])
                refine bodyPost_ret (results_row2c rfl _ _ g2 _ _ _ rfl (HZ.out.at_ 0 rfl) Tryz.underlying80 rfl (by kernel_rfl)) rfl ?_; exact ⟨⟨_, _, _, by rw [HV.out]; rfl⟩, HZ.out.bl⟩
            · obtain rfl : o.n3 = k := (by omega); have hkI : decide ((o.n3 : Int) < (o.n3 : Int)) = false := (by simp); have hX3 : X3 = 0 := (by rw [← HK.out, Nat.sub_self]; rfl); subst hX3; rw [if_pos rfl] at HE; clear HK hkn hk; go_wp2_with fail; clear c0 hkI
              go_loopw [12] (fun s6 wv => ∃ k : Nat, k ≤ o.n4 ∧ s6 = .int .i64 (k : Int) ∧ Sl (Lg w wv [(g2, 80, #[.int .i64 0, .int .i64 0, .int .i64 0]), (g1, 27, #[.slice o.A1 o.n1 o.c1, .slice o.A2 o.n2 o.c2, .slice o.A3 o.n3 o.c3, .slice o.A4 o.n4 o.c4])]) ∧ Sl (fstE (rcpE o) (o.n4 - k) k = X4)) (fun s6 _ => o.n4 - (RowKit.intOf s6).toNat)
              case atStart => exact ⟨0, Nat.zero_le _, rfl, HD, ⟨H4.out⟩⟩
              case round =>
                clear HD; obtain ⟨k, hk, rfl, HD, HK⟩ := hrel; have c0 : wr.cell? ⟨g1, 3, none⟩ = some (.slice o.A4 o.n4 o.c4) := (HD.out.at_ 1 rfl).cell 3; have hn80 : (o.n4 : Int) ≤ 80 := (by have := HN.out; omega)
                by_cases hkn : k < o.n4
                · have hkI : decide ((k : Int) < (o.n4 : Int)) = true := decide_eq_true (by omega); have hkI2 : (k : Int) < (o.n4 : Int) := (by omega); have HKN : Sl (k < o.n4) := ⟨hkn⟩; have HSU := fstE_succ (rcpE o) hkn; rw [HK.out] at HSU; have HS2 : Sl _ := ⟨HSU⟩; clear HSU
                  go_wp2_with ((with_reducible show wpList _ _ _ _ _ _); first
                    | (refine wpList_load_whole rfl 27 (.tmp 1) rfl g1 rfl 27 _ _ (HD.out.at_ 1 rfl) Tryz.underlying27 rfl (by kernel_rfl) ?_))
                  refine (rcoupler_any o k wr (HM.out.below HD.out.bl) HF.out HKN.out (by have := HN.out; omega)).mono ?_; rintro e w5 ⟨rfl, hb5⟩; replace HD : Sl _ := ⟨HD.out.below hb5⟩; clear hb5 c0; obtain ⟨z, hz⟩ : ∃ z, rcpE o k = z := ⟨_, rfl⟩; rw [hz] at HS2 ⊢; clear hz
                  by_cases hz0 : z = 0
                  · subst hz0; rw [if_pos rfl] at HS2; have HS3 : Sl _ := ⟨HS2.out.symm⟩; have hzz : ((0 : Int) != 0) = false := (by decide); go_wp2_with fail; exact ⟨⟨k + 1, hkn, by go_num, HD, HS3⟩, by simp [RowKit.intOf]; omega⟩
                  · rw [if_neg hz0] at HS2; have hzz : (z != 0) = true := (by simpa using hz0); have HV : Sl (r = z) := ⟨by rw [HE.out, HS2.out]; (try rw [if_neg hz0])⟩; clear HE hz0
                    go_wp2_with ((with_reducible show wpList _ _ _ _ _ _); first
                      | (refine wpList_store_whole rfl 80 (.tmp 2) (.tmp 129) rfl g2 #[.int .i64 4, .int .i64 (k : Int), .int .i64 0] rfl rfl 80 _ (HD.out.at_ 0 rfl) rfl (by kernel_rfl) (by simp [Value.oneCell']) ?_; rintro w9 zm zs zb; have HZ : Sl _ := ⟨HD.out.set 0 rfl zm zb⟩; clear zm zs zb))
                    (try simp only [Exit.inBlock, Exit.then])
                    refine bodyPost_ret (results_row2c rfl _ _ g2 _ _ _ rfl (HZ.out.at_ 0 rfl) Tryz.underlying80 rfl (by kernel_rfl)) rfl ?_; exact ⟨⟨_, _, _, by rw [HV.out]; rfl⟩, HZ.out.bl⟩
                · obtain rfl : o.n4 = k := (by omega); have hkI : decide ((o.n4 : Int) < (o.n4 : Int)) = false := (by simp); have HV : Sl (r = 0) := ⟨by rw [HE.out, ← HK.out, Nat.sub_self]; rfl⟩; clear HK hkn hk HE
                  go_wp2_with ((with_reducible show wpList _ _ _ _ _ _); first
                    | (refine wpList_store_whole rfl 80 (.tmp 2) (.tmp 131) rfl g2 #[.int .i64 0, .int .i64 0, .int .i64 0] rfl rfl 80 _ (HD.out.at_ 0 rfl) rfl (by kernel_rfl) (by simp [Value.oneCell']) ?_; rintro w9 zm zs zb; have HZ : Sl _ := ⟨HD.out.set 0 rfl zm zb⟩; clear zm zs zb))
                  (try simp only [Exit.inBlock, Exit.then])
                  refine bodyPost_ret (results_row2c rfl _ _ g2 _ _ _ rfl (HZ.out.at_ 0 rfl) Tryz.underlying80 rfl (by kernel_rfl)) rfl ?_; exact ⟨⟨_, _, _, by rw [HV.out]; rfl⟩, HZ.out.bl⟩
end Go.Proofs.YtbaojmfkjpnfhaaGreatDoor
