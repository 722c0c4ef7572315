/- What the rows of the laws of package mixtures need that ask for no table: their list of tables, a world for the witness, the last step. Parts began as the given page's toy and as the guide's post_of_below, which its page bids to copy. -/
import Derived.Test.YtafadpaljanghaaGreatDoorCards
import Derived.Test.YtafadpaljanghaaGreatDoorTie
import Derived.Test.YtafadpaljanghaaGreatDoorBase
import Derived.ProofKit
import Derived.OpenShut
import Derived.Deep.DeepHandedRow
import Derived.Lib.LaidTab
import Derived.Stop.LaidErr
import Derived.ChangeSame
import Derived.ChangeSlices
import Derived.Carry
import Derived.Lay
import Derived.ChangeMaps5
import Derived.Test.YtafadpaljanghaaGreatDoorMyH
import Derived.Deep.Slices
import Derived.Deep.Strs
import Derived.Test.YtafadpaljanghaaGreatDoorMyC
import Derived.Test.YtafadpaljanghaaGreatDoorMyS
import Derived.Test.YtafadpaljanghaaGreatDoorMyU
import Derived.Test.YtafadpaljanghaaGreatDoorHld
import Derived.Maps.Own
import Derived.Maps.OwnOps
import Derived.Maps.Views
import Derived.Deep.RegionHeld3
import Derived.Test.YtafadpaljanghaaGreatDoorMixG
import Derived.Test.YtafadpaljanghaaGreatDoorMixE
import Derived.Laws.MakeOwn
import Derived.Laws.EntriesVeiled
import Derived.Test.YtafadpaljanghaaGreatDoorMixT
import Derived.Test.YtafadpaljanghaaGreatDoorMixQ
import Derived.Deep.RegionWith
import Derived.Test.YtafadpaljanghaaGreatDoorShelB
import Derived.Test.YtafadpaljanghaaGreatDoorMixS
import Derived.Test.YtafadpaljanghaaGreatDoorMyZ
namespace Go.Proofs.YtafadpaljanghaaGreatDoor
set_option linter.unusedSimpArgs false
open Go.ChangeShapes Go.WideShapes Go.ChangeAt Go.RowKit
set_option linter.unusedVariables false
section
variable {H : Type} {enc : TypeId × Value → H} {P : Program}
theorem post_of_below {f : Func} {s : ChangeSpec} {apart fresh handsOn again : Bool} {W W' : World} {args : Array Value} {v : Value} {ds gs : List (DataW H)} {before pa pv : List MemPlace}
    (hW : DataW.Whole enc P f.params.toList s.vars apart W args.toList ds gs before)
    (hres : ∀ (b : Nat) (sp : Nat → Bool) (hd : Bool), DataW.TrodAll enc P W' b sp hd f.resultTypes.toList (v.resultList f.resultTypes.size) (s.fn H (ds ++ gs)).results [])
    (hargs : ∀ sp : Nat → Bool, (∀ p ∈ before, sp p.block = true) → DataW.TrodAll enc P W' 0 sp true f.params.toList args.toList (s.fn H (ds ++ gs)).args pa)
    (hvars : ∀ sp : Nat → Bool, (∀ p ∈ before, sp p.block = true) → DataW.TrodVars enc P W' sp s.vars (s.fn H (ds ++ gs)).vars pv)
    (hps : before = pa ++ pv) (hb : Below W.heap.size W W')
    (hok : ∀ (j : Nat) (t : TypeId) (r : Value), f.resultTypes[j]? = some t → (v.resultList f.resultTypes.size)[j]? = some r → Value.okWide P W' .any 0 t r) :
    s.post enc P f apart fresh handsOn again W args v W' := by
  have hlt : ∀ p ∈ before, p.block < W.heap.size := fun p hp => hW.lt p hp
  have hold : ∀ p ∈ before, (fun b => decide (b < W.heap.size)) p.block = true := fun p hp => by simpa using hlt p hp
  refine ⟨ds, gs, before, [], pa, pv, hW, hres _ _ _, hargs _ hold, hvars _ hold, World.keptBut_mono (fun p hp => ⟨hp, ?_⟩) (hb.frame (· ∈ before)), fun _ => ?_⟩
  · rw [hps, List.mem_append] at hp; exact Or.inr hp
  · obtain ⟨_, _, _, _, _, hz, hn⟩ := hW; refine ⟨hok, _, _, ([] ++ pa) ++ pv, ⟨[] ++ pa, pv, trodAll_append (hargs _ (fun _ _ => rfl)) (hres _ _ _), hvars _ (fun _ _ => rfl), rfl, ?_, ?_⟩, ?_⟩
    · intro b off hp; have hin : MemPlace.cell b off ∈ before := (by rw [hps]; simpa using hp); rw [hb.frozen (hlt _ hin)]; exact hz b off hin
    · intro ha; have := hn ha; rw [hps] at this; simpa using this
    · intro p hp _; rw [hps]; simpa using hp
end
theorem ownK : ownKnob Tryz.prog.godebug = none := by kernel_rfl
theorem laidO : laidOutB Tryz.prog = true := by kernel_rfl
def laidLM : List (String × DataW Unit) := [("math/bits.deBruijn32tab", Rows.laid_math_bits_deBruijn32tab), ("math/bits.deBruijn64tab", Rows.laid_math_bits_deBruijn64tab), ("internal/strconv.uint64pow10", Rows.laid_internal_strconv_uint64pow10)]
noncomputable def laidWorldM (os : Os) : World := World.laidAll Tryz.prog os laidLM
theorem laid_metM (os : Os) (args : Array Value) : laidMet Tryz.prog laidLM ((laidWorldM os).forCall (fun _ _ => 0) ⟨#[], args, []⟩).memory :=
  laidMet_laidAll args (by kernel_rfl) (by kernel_rfl)
theorem wf_i64 {z : Int} (h : (Lit.int .i64 z).wf = true) : -9223372036854775808 ≤ z ∧ z < 9223372036854775808 := by
  simp [Lit.wf, IntKind.min, IntKind.max, IntKind.signed, IntKind.bits] at h; omega
theorem stays {H : Type} {enc : TypeId × Value → H} {t : TypeId} (hr : Tryz.prog.readableRec t = true) (hrow : t < Tryz.prog.types.size) {W W' : World} {v : Value} {d : DataW H} {ps : List MemPlace} (h : DataW.Trod enc Tryz.prog W 0 (fun _ => true) true t v d ps) (hb : Below W.heap.size W W') (hlt : ∀ x ∈ ps, x.block < W.heap.size) (sp : Nat → Bool) (hsp : ∀ x ∈ ps, sp x.block = true) :
    DataW.Trod enc Tryz.prog W' 0 sp true t v d ps := WideElems.Trod_stays laidO hr hrow h (fun x hx => hb.same (hlt x hx)) (fun x hx => hsp x hx)
end Go.Proofs.YtafadpaljanghaaGreatDoor
namespace Go.Proofs.YtafadpaljanghaaGreatDoor
open Go.ChangeShapes Go.WideShapes Go.ChangeAt Go.RowKit Go.Deep
set_option linter.unusedVariables false
set_option linter.unusedSimpArgs false
set_option maxRecDepth 100000 in
theorem ints_trod {H : Type} {enc : TypeId × Value → H} {W : World} {fuel : Nat} {v : Value} {x : DataW H × List MemPlace} (h : DataW.trod enc Tryz.prog W 0 (fun _ => true) true fuel 36 [v] = some x) (hb : ∀ p ∈ x.2, p.block < W.heap.size) :
    ∃ A n c l, v = .slice A n c ∧ II W A n l ∧ (n ≤ c ∧ c ≤ maxLen) ∧ ∀ z ∈ l, i64 z := by
  rcases open_ints Tryz.underlying36 Tryz.underlying3 (by kernel_rfl) h with ⟨hv, _⟩ | ⟨a, len, cap, zs, hv, _, hlc, hcm, hzl, hx, hcell, hwf⟩
  · simp at hv; exact ⟨none, 0, 0, [], hv, II.nil _ _, ⟨by simp, by decide⟩, by simp⟩
  · simp at hv; subst hv; simp only [if_true] at hzl; rw [hx] at hb; refine ⟨some a, len, cap, zs.take len, rfl, ⟨by rw [List.length_take]; omega, by simp; omega, fun h0 => ⟨a, rfl, ?_, fun j u hu => ?_⟩⟩, ⟨hlc, hcm⟩, fun z hz => wf_i64 (hwf z (List.mem_of_mem_take hz))⟩
    · exact hb _ (MemPlace.mem_row.2 ⟨0, by omega, rfl⟩)
    · rw [List.getElem?_map] at hu; rcases Nat.lt_or_ge j len with hj | hj
      · rw [List.getElem?_take_of_lt hj, List.getElem?_eq_getElem (by omega)] at hu; simp at hu; subst hu; rw [hcell j (by omega)]; have e : zs.getD j 0 = zs[j]'(by omega) := (by simp [List.getD, List.getElem?_eq_getElem (show j < zs.length by omega)]); rw [e]; rfl
      · rw [List.getElem?_eq_none (by simp; omega)] at hu
        cases hu
set_option maxRecDepth 100000 in
theorem brk_trod {H : Type} {enc : TypeId × Value → H} {W : World} {fuel : Nat} {cs : List Value} {x : DataW H × List MemPlace} (h : DataW.trod enc Tryz.prog W 0 (fun _ => true) true fuel 59 cs = some x) (hb : ∀ p ∈ x.2, p.block < W.heap.size) :
    ∃ b : Bk, cs = b.cells ∧ II W b.A b.n b.l ∧ (b.n ≤ b.c ∧ b.c ≤ maxLen) ∧ i64 b.fr ∧ ∀ z ∈ b.l, i64 z := by
  obtain ⟨y0, y1, n, hx, hl, h0, h1⟩ := trod_struct2 Tryz.underlying59 h; have c1 : Tryz.prog.cellsOf 3 = 1 := (by kernel_rfl); have c2 : Tryz.prog.cellsOf 36 = 1 := (by kernel_rfl); have c3 : Tryz.prog.cellsOf 59 = 2 := (by kernel_rfl); rw [c3] at hl; rw [hx] at hb
  match cs, hl with
  | [u0, u1], _ =>
    simp only [c1, c2, List.drop_zero, List.drop_succ_cons, List.take_succ_cons, List.take_zero] at h0 h1; obtain ⟨k, e0, _, hk⟩ := DataW.trod_int Tryz.underlying3 h0; obtain ⟨A, n1, c, l, e1, g1, g2, g3⟩ := ints_trod h1 (fun p hp => hb p (by simp [hp])); simp at e0; subst e0 e1; exact ⟨⟨k, A, n1, c, l⟩, rfl, g1, g2, wf_i64 hk, g3⟩
set_option maxRecDepth 100000 in
theorem brks_trod {H : Type} {enc : TypeId × Value → H} {W : World} {fuel : Nat} {v : Value} {x : DataW H × List MemPlace} (h : DataW.trod enc Tryz.prog W 0 (fun _ => true) true fuel 32 [v] = some x) (hb : ∀ p ∈ x.2, p.block < W.heap.size) :
    ∃ A n c L, v = .slice A n c ∧ MXA W A n c L := by
  rcases open_slice Tryz.underlying32 h with ⟨hv, _⟩ | ⟨a, len, cap, m, n, D, Pl, hv, _, hlc, hcm, hm, hx, hi⟩
  · simp at hv; exact ⟨none, 0, 0, [], hv, ⟨⟨rfl, Reads.none_, fun b hb => (by cases hb)⟩, ⟨by simp, by decide⟩, fun b hb => (by cases hb), fun b hb => (by cases hb), fun b hb => (by cases hb)⟩⟩
  · simp at hv; subst hv; simp only [if_true] at hm; subst hm; have c3 : Tryz.prog.cellsOf 59 = 2 := (by kernel_rfl); rw [hx, c3] at hb
    have hel : ∀ i, ∃ b : Bk, i < m → (W.cell? (a.add (i * 2)) = some (.int .i64 b.fr) ∧ W.cell? (a.add (i * 2 + 1)) = some (.slice b.A b.n b.c)) ∧ II W b.A b.n b.l ∧ (b.n ≤ b.c ∧ b.c ≤ maxLen) ∧ i64 b.fr ∧ ∀ z ∈ b.l, i64 z := fun i => by
      by_cases him : i < m
      · obtain ⟨cs', hc, ht⟩ := hi i him
        obtain ⟨b, rfl, g1, g2, g3, g4⟩ := brk_trod ht (fun p hp => hb p (by
          rw [List.mem_append]
          exact .inr (List.mem_flatMap.2 ⟨i, List.mem_range.2 him, hp⟩)))
        rw [c3] at hc; obtain ⟨_, hcl, hat⟩ := World.cells?_some hc; have a0 := hat 0 (by decide); have a1 := hat 1 (by decide); refine ⟨b, fun _ => ⟨⟨?_, ?_⟩, g1, g2, g3, g4⟩⟩
        · have e : (a.add (i * 2)).add 0 = a.add (i * 2) := (by rw [add_of_add, Nat.add_zero]); rw [e] at a0; rw [a0]; rfl
        · rw [add_of_add] at a1; rw [a1]; rfl
      · exact ⟨bk0, fun h => absurd h him⟩
    obtain ⟨B, hs⟩ := Classical.axiomOfChoice hel; refine ⟨some a, len, m, (List.range len).map B, rfl, ?_⟩
    have hget : ∀ {i b}, ((List.range len).map B)[i]? = some b → i < len ∧ b = B i := fun {i b} h => by
      rw [List.getElem?_map] at h; rcases Nat.lt_or_ge i len with hi | hi
      · rw [List.getElem?_range hi] at h; exact ⟨hi, by simpa using h.symm⟩
      · rw [List.getElem?_eq_none (by simpa using hi)] at h; cases h
    have hmem : ∀ b ∈ (List.range len).map B, ∃ i, i < len ∧ b = B i := fun b hb => by
      obtain ⟨i, hi⟩ := List.mem_iff_getElem?.1 hb; exact ⟨i, hget hi⟩
    refine ⟨⟨by simp, ⟨?_, fun h0 => ⟨a, rfl, ?_, fun j u hu => ?_⟩⟩, fun b hb => ?_⟩, ⟨hlc, hcm⟩, fun b hb => ?_, fun b hb => ?_, fun b hb => ?_⟩
    · rw [flatK_len]; simp
    · exact hb _ (List.mem_append_left _ (MemPlace.mem_row.2 ⟨0, by omega, rfl⟩))
    · have hjl : j < len * 2 := by
        rcases Nat.lt_or_ge j (len * 2) with h | h
        · exact h
        · rw [List.getElem?_eq_none (by rw [flatK_len]; simpa using h)] at hu; cases hu
      have hq : ((List.range len).map B)[j / 2]? = some (B (j / 2)) := by
        rw [List.getElem?_map, List.getElem?_range (by omega)]; rfl
      obtain ⟨f1, f2⟩ := flatK _ _ _ hq; obtain ⟨⟨k1, k2⟩, _⟩ := hs (j / 2) (by omega); rcases Nat.mod_two_eq_zero_or_one j with h | h
      · rw [show j / 2 * 2 = j by omega] at f1 k1; rw [f1] at hu; injection hu with hu
        rw [k1, hu]
      · rw [show j / 2 * 2 + 1 = j by omega] at f2 k2; rw [f2] at hu; injection hu with hu
        rw [k2, hu]
    · obtain ⟨i, h1, rfl⟩ := hmem b hb; exact (hs i (by omega)).2.1
    · obtain ⟨i, h1, rfl⟩ := hmem b hb; exact (hs i (by omega)).2.2.2.1
    · obtain ⟨i, h1, rfl⟩ := hmem b hb; exact (hs i (by omega)).2.2.1
    · obtain ⟨i, h1, rfl⟩ := hmem b hb; exact (hs i (by omega)).2.2.2.2
set_option maxRecDepth 100000 in
theorem mx_arg {H : Type} {enc : TypeId × Value → H} {W : World} {base : Nat} {v : Value} {d : DataW H} {ps : List MemPlace} (hval : Value.okWide Tryz.prog W .any base 34 v) (h : DataW.Trod enc Tryz.prog W 0 (fun _ => true) true 34 v d ps) (hb : ∀ p ∈ ps, p.block < W.heap.size) :
    ∃ (a b : Int) (A : Option Addr) (n c : Nat) (L : List Bk), v = .agg #[.int .i64 a, .int .i64 b, .slice A n c] ∧ MXA W A n c L ∧ i64 a ∧ i64 b := by
  obtain ⟨cs, rfl, hsz⟩ := okWide_struct Tryz.underlying34 hval; have c7 : Tryz.prog.cellsOf 34 = 3 := (by kernel_rfl); rw [c7] at hsz; obtain ⟨l⟩ := cs
  match l, hsz with
  | [v0, v1, v2], _ =>
    obtain ⟨fuel, hf⟩ := h; obtain ⟨y0, y1, y2, n, hx, _, h0, h1, h2⟩ := Go.Deep.trod_struct3 Tryz.underlying34 hf; have c1 : Tryz.prog.cellsOf 3 = 1 := (by kernel_rfl); have c2 : Tryz.prog.cellsOf 32 = 1 := (by kernel_rfl); simp only [Value.cells, c1, c2, List.drop_zero, List.drop_succ_cons, List.take_succ_cons, List.take_zero] at h0 h1 h2; simp only [Prod.mk.injEq] at hx; obtain ⟨_, rfl⟩ := hx; obtain ⟨a, e0, _, ha⟩ := DataW.trod_int Tryz.underlying3 h0; obtain ⟨b, e1, _, hb1⟩ := DataW.trod_int Tryz.underlying3 h1; obtain ⟨A, n1, c, L, e2, hM⟩ := brks_trod h2 (fun p hp => hb p (by simp [hp])); simp at e0 e1; subst e0 e1 e2; exact ⟨a, b, A, n1, c, L, rfl, hM, wf_i64 ha, wf_i64 hb1⟩
end Go.Proofs.YtafadpaljanghaaGreatDoor
namespace Go.Proofs.YtafadpaljanghaaGreatDoor
open Go.ChangeShapes Go.WideShapes Go.ChangeAt Go.RowKit Go.Deep
set_option linter.unusedVariables false
set_option linter.unusedSimpArgs false
theorem trod_struct5 {H : Type} {enc : TypeId × Value → H} {P : Program} {w : World} {base : Nat} {spare : Nat → Bool} {held : Bool} {t : TypeId} {f0 f1 f2 f3 f4 : Field} {fuel : Nat} {cs : List Value} {x : DataW H × List MemPlace} (ht : P.underlying t = some (.struct #[f0, f1, f2, f3, f4])) (h : DataW.trod enc P w base spare held fuel t cs = some x) :
    ∃ y0 y1 y2 y3 y4 n, x = (.agg [y0.1, y1.1, y2.1, y3.1, y4.1], y0.2 ++ (y1.2 ++ (y2.2 ++ (y3.2 ++ y4.2)))) ∧ cs.length = P.cellsOf t ∧ DataW.trod enc P w base spare held n f0.type ((cs.drop f0.offset).take (P.cellsOf f0.type)) = some y0 ∧
      DataW.trod enc P w base spare held n f1.type ((cs.drop f1.offset).take (P.cellsOf f1.type)) = some y1 ∧ DataW.trod enc P w base spare held n f2.type ((cs.drop f2.offset).take (P.cellsOf f2.type)) = some y2 ∧
      DataW.trod enc P w base spare held n f3.type ((cs.drop f3.offset).take (P.cellsOf f3.type)) = some y3 ∧ DataW.trod enc P w base spare held n f4.type ((cs.drop f4.offset).take (P.cellsOf f4.type)) = some y4 := by
  obtain ⟨xs, n, _, rfl, hl, hlen, hf⟩ := DataW.trod_struct ht h
  match xs, hlen with
  | [y0, y1, y2, y3, y4], _ => exact ⟨y0, y1, y2, y3, y4, n, by simp, hl, by simpa using hf 0 f0 rfl, by simpa using hf 1 f1 rfl, by simpa using hf 2 f2 rfl, by simpa using hf 3 f3 rfl, by simpa using hf 4 f4 rfl⟩
set_option maxRecDepth 100000 in
theorem ints_arg {H : Type} {enc : TypeId × Value → H} {W : World} {base : Nat} {v : Value} {d : DataW H} {ps : List MemPlace} (hval : Value.okWide Tryz.prog W .any base 36 v) (h : DataW.Trod enc Tryz.prog W 0 (fun _ => true) true 36 v d ps) (hb : ∀ p ∈ ps, p.block < W.heap.size) :
    ∃ A n c l, v = .slice A n c ∧ II W A n l ∧ (n ≤ c ∧ c ≤ maxLen) ∧ ∀ z ∈ l, i64 z := by
  obtain ⟨a0, len0, cap0, rfl⟩ := okWide_slice Tryz.underlying36 hval; obtain ⟨fuel, h⟩ := h; exact ints_trod h hb
end Go.Proofs.YtafadpaljanghaaGreatDoor
namespace Go.Proofs.YtafadpaljanghaaGreatDoor
set_option linter.unusedSimpArgs false
set_option linter.unusedVariables false
abbrev Rn := Int × Int × Int
def rst (out : List Rn) (f t s : Int) : List Rn :=
  match out.getLast? with
  | some (f', t', s') => if t' = f - 1 ∧ s' = s then out.dropLast ++ [(f', t, s)] else out ++ [(f, t, s)]
  | none => [(f, t, s)]
theorem rst_nil (f t s : Int) : rst [] f t s = [(f, t, s)] := rfl
theorem rst_snoc (out : List Rn) (f' t' s' f t s : Int) : rst (out ++ [(f', t', s')]) f t s = if t' = f - 1 ∧ s' = s then out ++ [(f', t, s)] else out ++ [(f', t', s')] ++ [(f, t, s)] := by
  unfold rst; rw [List.getLast?_append]; simp
theorem rst_more (out : List Rn) (f t s : Int) : rst (rst out f t s) (t + 1) (t + 1) s = rst out f (t + 1) s := by
  rcases List.eq_nil_or_concat out with rfl | ⟨o, x, rfl⟩
  · rw [rst_nil, rst_nil, show ([(f, t, s)] : List Rn) = [] ++ [(f, t, s)] from rfl, rst_snoc, if_pos ⟨by omega, rfl⟩]; rfl
  · obtain ⟨f', t', s'⟩ := x; rw [List.concat_eq_append, rst_snoc, rst_snoc]
    split
    · rename_i h; rw [rst_snoc, if_pos ⟨by omega, rfl⟩]
    · rw [rst_snoc, if_pos ⟨by omega, rfl⟩]
def Mx.sh (x : Mx) (p : Nat) (own : Int) (i : Nat) : Int := gt (x.rk i) p - own
def Mx.runs (x : Mx) (p : Nat) (own : Int) : Nat → List Rn
  | 0 => []
  | i+1 => if p < (x.rk i).length then rst (x.runs p own i) (x.fr i) (x.last i) (x.sh p own i) else x.runs p own i
def Mx.kruns (x : Mx) (p : Nat) (own : Int) : Nat → List Rn
  | 0 => []
  | k+1 => if p < (x.rk (x.at (x.key k) x.n)).length then rst (x.kruns p own k) (x.key k) (x.key k) (x.sh p own (x.at (x.key k) x.n)) else x.kruns p own k
def Mx.ahead (x : Mx) (i : Nat) : Nat := (x.fr i - x.a).toNat
theorem Mx.Ord.runs_in {x : Mx} (h : x.Ord) (p : Nat) (own : Int) {i : Nat} (hi : i < x.n) (h0 : x.kruns p own (x.ahead i) = x.runs p own i) :
    ∀ j : Nat, x.fr i + (j : Int) ≤ x.last i → x.kruns p own (x.ahead i + j + 1) = if p < (x.rk i).length then rst (x.runs p own i) (x.fr i) (x.fr i + (j : Int)) (x.sh p own i) else x.runs p own i := by
  have hf : x.a ≤ x.fr i := (by rw [← h.first]; exact h.mono (Nat.zero_le i) hi); have hk : ∀ j : Nat, x.key (x.ahead i + j) = x.fr i + (j : Int) := fun j => by unfold Mx.key Mx.ahead; omega
  intro j
  induction j with
  | zero =>
    intro hj; have h00 : x.key (x.ahead i) = x.fr i := (by unfold Mx.key Mx.ahead; omega); have ha := h.at_of hi (key := x.key (x.ahead i)) (by rw [h00]; exact Int.le_refl _) (by rw [h00]; exact h.last_ge hi); have hz : x.fr i + ((0 : Nat) : Int) = x.fr i := (by omega); rw [Nat.add_zero, Mx.kruns, ha, h00, hz, h0]
  | succ j ih =>
    intro hj; have ha := h.at_of hi (key := x.key (x.ahead i + (j + 1))) (by rw [hk (j + 1)]; omega) (by rw [hk (j + 1)]; exact hj); rw [Mx.kruns, ha, hk (j + 1), show x.ahead i + (j + 1) = x.ahead i + j + 1 by omega, ih (by omega)]
    split
    · rw [show x.fr i + ((j + 1 : Nat) : Int) = x.fr i + (j : Int) + 1 by omega]; exact rst_more _ _ _ _
    · rfl
theorem Mx.Ord.runs_keys {x : Mx} (h : x.Ord) (p : Nat) (own : Int) : ∀ i, i < x.n → x.kruns p own (x.ahead i) = x.runs p own i
  | 0, hi => by
    have : x.ahead 0 = 0 := (by unfold Mx.ahead; rw [h.first]; omega); rw [this]; rfl
  | i+1, hi => by
    have ih := h.runs_keys p own i (by omega); have hl : x.last i = x.fr (i + 1) - 1 := (by unfold Mx.last; rw [if_pos hi]); have hu := h.up i hi; have hf : x.a ≤ x.fr i := (by rw [← h.first]; exact h.mono (Nat.zero_le i) (by omega)); have hr := h.runs_in p own (show i < x.n by omega) ih (x.fr (i + 1) - 1 - x.fr i).toNat (by omega); have e : x.ahead i + (x.fr (i + 1) - 1 - x.fr i).toNat + 1 = x.ahead (i + 1) := (by unfold Mx.ahead; omega); rw [e] at hr; rw [hr, Mx.runs, hl]; rw [show x.fr i + ((x.fr (i + 1) - 1 - x.fr i).toNat : Int) = x.fr (i + 1) - 1 by omega]
theorem Mx.Ord.runs_all {x : Mx} (h : x.Ord) (p : Nat) (own : Int) : x.kruns p own x.keys = x.runs p own x.n := by
  obtain ⟨i, hi⟩ : ∃ i, x.n = i + 1 := ⟨x.n - 1, by have := h.pos; omega⟩; have ih := h.runs_keys p own i (by omega); have hl : x.last i = x.b := (by unfold Mx.last; rw [if_neg (by omega)]); have hle := h.le i (by omega); have hf : x.a ≤ x.fr i := (by rw [← h.first]; exact h.mono (Nat.zero_le i) (by omega)); have hr := h.runs_in p own (show i < x.n by omega) ih (x.b - x.fr i).toNat (by omega); have e : x.ahead i + (x.b - x.fr i).toNat + 1 = x.keys := (by unfold Mx.ahead Mx.keys; omega); rw [e] at hr; rw [hr, hi, Mx.runs, hl]; rw [show x.fr i + ((x.b - x.fr i).toNat : Int) = x.b by omega]
end Go.Proofs.YtafadpaljanghaaGreatDoor
namespace Go.Proofs.YtafadpaljanghaaGreatDoor
set_option linter.unusedSimpArgs false
set_option linter.unusedVariables false
def cov (key : Int) : List Rn → List Int
  | [] => []
  | r :: l => if r.1 ≤ key ∧ key ≤ r.2.1 then r.2.2 :: cov key l else cov key l
theorem cov_append (key : Int) : ∀ l m : List Rn, cov key (l ++ m) = cov key l ++ cov key m
  | [], m => rfl
  | r :: l, m => by
    rw [List.cons_append, cov, cov, cov_append key l m]
    split <;> rfl
theorem cov_one (key f t s : Int) : cov key [(f, t, s)] = if f ≤ key ∧ key ≤ t then [s] else [] := rfl
theorem cov_none {key : Int} : ∀ {l : List Rn}, (∀ r ∈ l, r.2.1 < key) → cov key l = []
  | [], _ => rfl
  | r :: l, h => by
    have := h r List.mem_cons_self; rw [cov, if_neg (by omega), cov_none fun q hq => h q (List.mem_cons_of_mem _ hq)]
def Blw (key : Int) (l : List Rn) : Prop := ∀ r ∈ l, r.1 ≤ r.2.1 ∧ r.2.1 < key
theorem Blw.rst {key s : Int} {l : List Rn} (h : Blw key l) : Blw (key + 1) (rst l key key s) := by
  rcases List.eq_nil_or_concat l with rfl | ⟨o, x, rfl⟩
  · rw [rst_nil]; intro r hr; simp at hr; subst hr; exact ⟨Int.le_refl _, by show key < key + 1; omega⟩
  · obtain ⟨f', t', s'⟩ := x; rw [List.concat_eq_append] at h ⊢; have h1 := h (f', t', s') (by simp); simp only [] at h1; rw [rst_snoc]; intro r hr
    split at hr
    · rename_i hc; rcases List.mem_append.1 hr with hr | hr
      · have := h r (List.mem_append_left _ hr); omega
      · simp at hr; subst hr; show f' ≤ key ∧ key < key + 1; omega
    · rcases List.mem_append.1 hr with hr | hr
      · have := h r hr; omega
      · simp at hr; subst hr; exact ⟨Int.le_refl _, by show key < key + 1; omega⟩
theorem cov_rst {key s : Int} {l : List Rn} (h : Blw key l) (q : Int) : cov q (rst l key key s) = if q = key then [s] else cov q l := by
  have hnone : ∀ {l : List Rn}, Blw key l → cov key l = [] := fun hl => cov_none fun r hr => (hl r hr).2
  rcases List.eq_nil_or_concat l with rfl | ⟨o, x, rfl⟩
  · rw [rst_nil, cov_one]
    by_cases hq : q = key
    · rw [if_pos hq, if_pos (by omega)]
    · rw [if_neg hq, if_neg (by omega)]; rfl
  · obtain ⟨f', t', s'⟩ := x; rw [List.concat_eq_append] at h ⊢; have h1 := h (f', t', s') (by simp); simp only [] at h1; have ho : Blw key o := fun r hr => h r (List.mem_append_left _ hr)
    rw [rst_snoc]
    split
    · rename_i hc; rw [cov_append, cov_append, cov_one, cov_one]
      by_cases hq : q = key
      · subst hq; rw [if_pos rfl, hnone ho, if_pos (by omega)]; rfl
      · rw [if_neg hq]; congr 1
        by_cases h2 : f' ≤ q ∧ q ≤ t'
        · rw [if_pos h2, if_pos (by omega), hc.2]
        · rw [if_neg h2, if_neg (by omega)]
    · rw [cov_append, cov_one]
      by_cases hq : q = key
      · subst hq; rw [if_pos rfl, hnone h, if_pos (by omega)]; rfl
      · rw [if_neg hq, if_neg (by omega), List.append_nil]
theorem Blw.more {key : Int} {l : List Rn} (h : Blw key l) : Blw (key + 1) l := fun r hr => by have := h r hr; omega
theorem Mx.kruns_blw (x : Mx) (p : Nat) (own : Int) : ∀ k, Blw (x.key k) (x.kruns p own k)
  | 0 => fun r hr => by cases hr
  | k+1 => by
    have e : x.key (k + 1) = x.key k + 1 := (by unfold Mx.key; omega); rw [e, Mx.kruns]
    split
    · exact (x.kruns_blw p own k).rst
    · exact (x.kruns_blw p own k).more
theorem Mx.kruns_cov (x : Mx) (p : Nat) (own : Int) : ∀ k j, j < k → cov (x.key j) (x.kruns p own k) = if p < (x.rk (x.at (x.key j) x.n)).length then [x.sh p own (x.at (x.key j) x.n)] else []
  | 0, j, h => absurd h (Nat.not_lt_zero _)
  | k+1, j, h => by
    rw [Mx.kruns]; rcases Nat.lt_or_ge j k with h1 | h1
    · have ih := x.kruns_cov p own k j h1; have hne : x.key j ≠ x.key k := (by unfold Mx.key; omega)
      split
      · rw [cov_rst (x.kruns_blw p own k), if_neg hne, ih]
      · exact ih
    · obtain rfl : j = k := (by omega)
      split
      · rw [cov_rst (x.kruns_blw p own j), if_pos rfl]
      · exact cov_none fun r hr => (x.kruns_blw p own j r hr).2
theorem Mx.Ord.runs_cov {x : Mx} (h : x.Ord) (p : Nat) (own : Int) {j : Nat} (hj : j < x.keys) : cov (x.key j) (x.runs p own x.n) = if p < (x.rk (x.at (x.key j) x.n)).length then [x.sh p own (x.at (x.key j) x.n)] else [] := by
  rw [← h.runs_all]; exact x.kruns_cov p own _ j hj
def Mx.snds (x : Mx) (own : Nat → Int) (j : Nat) : Nat → List Int
  | 0 => []
  | p+1 => x.snds own j p ++ (cov (x.key j) (x.runs p (own p) x.n)).map fun s => x.key j + s + own p
theorem take_snoc {l : List Int} {p : Nat} (h : p < l.length) : l.take (p + 1) = l.take p ++ [gt l p] := by
  rw [List.take_add_one, gt_at h]; rfl
theorem Mx.Ord.snds_row {x : Mx} (h : x.Ord) (own : Nat → Int) {j : Nat} (hj : j < x.keys) : ∀ m, x.snds own j m = (x.row (x.key j)).take m
  | 0 => by rw [Mx.snds, List.take_zero]
  | p+1 => by
    rw [Mx.snds, h.snds_row own hj p, h.runs_cov p (own p) hj]
    by_cases hp : p < (x.rk (x.at (x.key j) x.n)).length
    · rw [if_pos hp, take_snoc (by rw [x.row_len]; exact hp)]; congr 1
      have e : gt (x.row (x.key j)) p = x.key j + gt (x.rk (x.at (x.key j) x.n)) p := by
        unfold gt; rw [x.row_at _ hp]; rfl
      rw [e]; show [x.key j + x.sh p (own p) (x.at (x.key j) x.n) + own p] = _; unfold Mx.sh; congr 1; omega
    · rw [if_neg hp, List.map_nil, List.append_nil]; have hl : (x.row (x.key j)).length ≤ p := (by rw [x.row_len]; omega); rw [List.take_of_length_le hl, List.take_of_length_le (by omega)]
theorem Mx.Ord.snds_all {x : Mx} (h : x.Ord) (own : Nat → Int) {j m : Nat} (hj : j < x.keys) (hm : (x.rk (x.at (x.key j) x.n)).length ≤ m) : x.snds own j m = x.row (x.key j) := by
  rw [h.snds_row own hj m]; exact List.take_of_length_le (by rw [x.row_len]; exact hm)
end Go.Proofs.YtafadpaljanghaaGreatDoor
namespace Go.Proofs.YtafadpaljanghaaGreatDoor
set_option linter.unusedSimpArgs false
set_option linter.unusedVariables false
structure RkV where
  nm : ByteArray
  kind : Int
  num : Int
  den : Int
  low : Int
  cnt : Int
def RkV.cells (r : RkV) : List Value := [.string r.nm, .int .i64 r.kind, .int .i64 r.num, .int .i64 r.den, .int .i64 r.low, .int .i64 r.cnt]
def rk0 : RkV := ⟨⟨#[]⟩, 0, 0, 0, 0, 0⟩
def RkV.bad (r : RkV) : Bool := decide (r.low < 0) || decide (127 < r.low) || decide (r.cnt < 1) || decide (97 < r.cnt) || decide (128 < r.low + r.cnt)
def RkV.has (r : RkV) (n : Int) : Bool := !r.bad && (decide (r.low ≤ n) && decide (n - r.low < r.cnt))
def RkV.hasP (r : RkV) (f t : Int) : Bool := !r.bad && (decide (r.low ≤ f) && decide (t < r.low + r.cnt))
theorem RkV.hasP_has {r : RkV} {f t : Int} (h : f ≤ t) : r.hasP f t = (r.has f && r.has t) := by
  unfold RkV.hasP RkV.has; rw [Bool.eq_iff_iff]; simp only [Bool.and_eq_true, decide_eq_true_eq]; constructor
  · rintro ⟨h1, h2, h3⟩; exact ⟨⟨h1, by omega, by omega⟩, h1, by omega, by omega⟩
  · rintro ⟨⟨h1, h2, h3⟩, _, h4, h5⟩; exact ⟨h1, by omega, by omega⟩
def rnE (r : RkV) (x : Rn) : Int := if x.2.2 < -96 ∨ 96 < x.2.2 then 7 else if (r.has (x.1 + x.2.2) && r.has (x.2.1 + x.2.2)) = true then 0 else 4
def rnsE (r : RkV) : List Rn → Int
  | [] => 0
  | x :: l => if rnE r x ≠ 0 then rnE r x else rnsE r l
theorem rnsE_zero {r : RkV} : ∀ {l : List Rn}, rnsE r l = 0 ↔ ∀ x ∈ l, rnE r x = 0
  | [] => by simp [rnsE]
  | y :: l => by
    rw [rnsE]
    by_cases h : rnE r y ≠ 0
    · rw [if_pos h]; exact ⟨fun h2 => absurd h2 h, fun h2 => absurd (h2 y List.mem_cons_self) h⟩
    · rw [if_neg h, rnsE_zero]; refine ⟨fun h2 x hx => ?_, fun h2 x hx => h2 x (List.mem_cons_of_mem _ hx)⟩; rcases List.mem_cons.1 hx with rfl | hx
      · exact Classical.not_not.1 h
      · exact h2 x hx
theorem rnsE_hit {r : RkV} {l : List Rn} {i : Nat} {x : Rn} (h0 : ∀ j y, j < i → l[j]? = some y → rnE r y = 0) (hx : l[i]? = some x) (hne : rnE r x ≠ 0) : rnsE r l = rnE r x := by
  induction l generalizing i with
  | nil => cases hx
  | cons y l ih =>
    rcases i with _ | i
    · injection hx with hx
      subst hx; rw [rnsE, if_pos hne]
    · have h1 := h0 0 y (Nat.succ_pos i) rfl; rw [rnsE, if_neg (by rw [h1]; decide)]; exact ih (fun j z hj hz => h0 (j + 1) z (by omega) hz) hx
def ptsE (rk : Nat → RkV) (ru : Nat → List Rn) : Nat → Int
  | 0 => 0
  | p+1 => if ptsE rk ru p ≠ 0 then ptsE rk ru p else rnsE (rk p) (ru p)
theorem ptsE_hit {rk : Nat → RkV} {ru : Nat → List Rn} {p : Nat} (h0 : ptsE rk ru p = 0) (h1 : rnsE (rk p) (ru p) ≠ 0) : ∀ {m : Nat}, p < m → ptsE rk ru m = rnsE (rk p) (ru p)
  | 0, h => absurd h (Nat.not_lt_zero _)
  | m+1, h => by
    rw [ptsE]; rcases Nat.lt_or_ge p m with h2 | h2
    · rw [ptsE_hit h0 h1 h2, if_pos h1]
    · obtain rfl : p = m := (by omega); rw [h0, if_neg (by decide)]
abbrev PtV := Int × Int × Int × Int
def ptC (p : PtV) : List Value := [.int .i64 p.1, .int .i64 p.2.1, .int .i64 p.2.2.1, .int .i64 p.2.2.2]
def ptOf (k : Int) (x : Rn) : PtV := (k, x.2.2, x.1, x.2.1)
def pts (us : List Int) (ru : Nat → List Rn) : Nat → List PtV
  | 0 => []
  | p+1 => pts us ru p ++ (ru p).map (ptOf (gt us p))
def Mx.lng (x : Mx) : Nat → Nat
  | 0 => 0
  | i+1 => max (x.lng i) (x.rk i).length
theorem Mx.lng_le {x : Mx} {m : Nat} : ∀ {i : Nat}, (∀ j, j < i → (x.rk j).length ≤ m) → x.lng i ≤ m
  | 0, _ => Nat.zero_le _
  | i+1, h => by
    have h1 := Mx.lng_le (x := x) (i := i) (fun j hj => h j (by omega)); have h2 := h i (Nat.lt_succ_self i); show max (x.lng i) (x.rk i).length ≤ m; omega
theorem Mx.le_lng {x : Mx} : ∀ {i j : Nat}, j < i → (x.rk j).length ≤ x.lng i
  | 0, j, h => absurd h (Nat.not_lt_zero _)
  | i+1, j, h => by
    show _ ≤ max (x.lng i) (x.rk i).length; rcases Nat.lt_or_ge j i with h1 | h1
    · have := Mx.le_lng (x := x) (i := i) h1; omega
    · obtain rfl : j = i := (by omega); omega
theorem rst_len (out : List Rn) (f t s : Int) : (rst out f t s).length ≤ out.length + 1 := by
  rcases List.eq_nil_or_concat out with rfl | ⟨o, x, rfl⟩
  · rw [rst_nil]; simp
  · obtain ⟨f', t', s'⟩ := x; rw [List.concat_eq_append, rst_snoc]
    split <;> simp
theorem Mx.runs_len (x : Mx) (p : Nat) (own : Int) : ∀ i, (x.runs p own i).length ≤ i
  | 0 => Nat.le_refl _
  | i+1 => by
    rw [Mx.runs]; have h := x.runs_len p own i
    split
    · have := rst_len (x.runs p own i) (x.fr i) (x.last i) (x.sh p own i); omega
    · omega
end Go.Proofs.YtafadpaljanghaaGreatDoor
namespace Go.Proofs.YtafadpaljanghaaGreatDoor
set_option linter.unusedSimpArgs false
open Go.RowKit
set_option linter.unusedVariables false
end Go.Proofs.YtafadpaljanghaaGreatDoor
namespace Go.Proofs.YtafadpaljanghaaGreatDoor
set_option linter.unusedSimpArgs false
open Go.RowKit
set_option linter.unusedVariables false
def Mx.dbls (x : Mx) : List Int := if x.chk = 0 then x.dbl x.keys else []
def DblR (x : Mx) (e : Ending) (w' : World) : Prop := ∃ A c, e = .returned (.tuple #[.slice A x.dbls.length c, .int .i64 x.chk]) ∧ II w' A x.dbls.length x.dbls
theorem DblR.bad {x : Mx} {r : Int} {w' : World} (h : x.chk = r) (h0 : r ≠ 0) : DblR x (.returned (.tuple #[.slice none 0 0, .int .i64 r])) w' := by
  have e : x.dbls = [] := (by unfold Mx.dbls; rw [if_neg (by rw [h]; exact h0)]); exact ⟨none, 0, by rw [e, h]; rfl, by rw [e]; exact II.nil _ _⟩
theorem own_slice {w : World} {base n : Nat} {e : TypeId} {v : Value} {l : List Int} (h : w.ownsRow base e 1 v n (l.map iv)) (hl : l.length = n) : ∃ A c, v = .slice A n c ∧ II w A n l := by
  have hr : ∃ A c, v = .slice A n c := by
    rcases h.2 with ⟨h1, h2⟩ | ⟨g, cap, cur, h1, _⟩
    · exact ⟨none, 0, by rw [h1, h2]⟩
    · exact ⟨_, _, h1⟩
  obtain ⟨A, c, rfl⟩ := hr; exact ⟨A, c, rfl, hl, Reads.of_own h⟩
end Go.Proofs.YtafadpaljanghaaGreatDoor
namespace Go.Proofs.YtafadpaljanghaaGreatDoor
set_option linter.unusedSimpArgs false
open Go.RowKit Go.Maps Go.WideShapes Go.ChangeMaps
set_option linter.unusedVariables false
def CM (W : World) (gm T : Nat) (f : Int → Nat) : Prop := ∃ D : DataW Unit, W.ownsMap Tryz.prog 3 (plainElem Tryz.prog 3) gm T D ∧ IsMap D ∧ ∀ v : Int, D.atKey (.int .i64 v) (.lit (.int .i64 0)) = .lit (.int .i64 (f v : Int))
theorem CM.kept {W W' : World} {gm T : Nat} {f : Int → Nat} {row : Option Nat} (h : CM W gm T f) (hg : W.grownBy W' row) (hne : some gm ≠ row) : CM W' gm T f := by
  obtain ⟨D, h1, h2, h3⟩ := h; exact ⟨D, h1.kept hg hne, h2, h3⟩
theorem CM.lt {W : World} {gm T : Nat} {f : Int → Nat} (h : CM W gm T f) : gm < W.heap.size := by
  obtain ⟨D, h1, _⟩ := h; exact h1.lt
theorem CM.below {W W' : World} {gm T : Nat} {f : Int → Nat} (h : CM W gm T f) (hb : Below W.heap.size W W') : CM W' gm T f :=
  h.kept (row := none) ⟨hb.os, hb.tape, hb.output, hb.size, fun k hk _ => hb.block k hk⟩ (by simp)
theorem CM.congr {W : World} {gm T : Nat} {f g : Int → Nat} (h : CM W gm T f) (e : ∀ v, f v = g v) : CM W gm T g := by
  obtain ⟨D, h1, h2, h3⟩ := h; exact ⟨D, h1, h2, fun v => by rw [h3, e]⟩
theorem CM.put {W' : World} {gm T : Nat} {f : Int → Nat} {D : DataW Unit} (h2 : IsMap D) (h3 : ∀ v : Int, D.atKey (.int .i64 v) (.lit (.int .i64 0)) = .lit (.int .i64 (f v : Int))) {u : Int} {z : Int} (hz : z = (f u : Int) + 1) (hown : W'.ownsMap Tryz.prog 3 (plainElem Tryz.prog 3) gm (T + 1) (D.put (.int .i64 u) (.lit (.int .i64 z)))) : CM W' gm (T + 1) (fun v => f v + if u = v then 1 else 0) := by
  refine ⟨_, hown, h2.put _ _, fun v => ?_⟩
  by_cases e : u = v
  · subst e; rw [atKey_put_same (k := .int .i64 u) h2 trivial]; show DataW.lit (.int .i64 z) = .lit (.int .i64 ((f u + if u = u then 1 else 0 : Nat) : Int)); rw [if_pos rfl, hz]; rfl
  · rw [atKey_put_other (fun h => e (by injection h with _ h; exact h.symm)), h3]; show DataW.lit (.int .i64 ((f v : Nat) : Int)) = .lit (.int .i64 ((f v + if u = v then 1 else 0 : Nat) : Int)); rw [if_neg e]; rfl
theorem CM.mono {W : World} {gm T T' : Nat} {f : Int → Nat} (h : CM W gm T f) (ht : T ≤ T') : CM W gm T' f := by
  obtain ⟨D, h1, h2, h3⟩ := h; exact ⟨D, h1.mono ht, h2, h3⟩
def Mx.cnts (x : Mx) : List (Nat × Nat) := if x.chk = 0 then x.counts 140 else []
def cC (p : Nat × Nat) : List Value := [.int .i64 (p.1 : Int), .int .i64 (p.2 : Int)]
def CntR (x : Mx) (e : Ending) (w' : World) : Prop := ∃ A c, e = .returned (.tuple #[.slice A x.cnts.length c, .int .i64 x.chk]) ∧ Reads w' w'.heap.size 2 A x.cnts.length (x.cnts.flatMap cC)
theorem CntR.bad {x : Mx} {r : Int} {w' : World} (h : x.chk = r) (h0 : r ≠ 0) : CntR x (.returned (.tuple #[.slice none 0 0, .int .i64 r])) w' := by
  have e : x.cnts = [] := (by unfold Mx.cnts; rw [if_neg (by rw [h]; exact h0)]); exact ⟨none, 0, by rw [e, h]; rfl, by rw [e]; exact Reads.none_⟩
theorem own_slice2 {w : World} {base size n : Nat} {e : TypeId} {v : Value} {xs : List Value} (h : w.ownsRow base e size v n xs) : ∃ A c, v = .slice A n c ∧ Reads w w.heap.size size A n xs := by
  have hr : ∃ A c, v = .slice A n c := by
    rcases h.2 with ⟨h1, h2⟩ | ⟨g, cap, cur, h1, _⟩
    · exact ⟨none, 0, by rw [h1, h2]⟩
    · exact ⟨_, _, h1⟩
  obtain ⟨A, c, rfl⟩ := hr; exact ⟨A, c, rfl, Reads.of_own h⟩
theorem xreadsN (W : World) (T : TypeId) (cs : List Value) (sz : Nat) (h : cs.length = sz) : Reads (W.alloc (.cells cs.toArray T)) (W.heap.size + 1) sz (some ⟨W.heap.size, 0, none⟩) 1 cs := by
  refine ⟨by omega, fun _ => ⟨_, rfl, Nat.lt_succ_self _, fun j u hu => ?_⟩⟩
  have e : (⟨W.heap.size, 0, none⟩ : Addr).add j = ⟨W.heap.size, j, none⟩ := by
    unfold Addr.add
    by_cases h : j = 0
    · subst h; simp
    · simp [h]
  rw [e, (Blk.new W T cs.toArray).cell j]; simpa using hu
end Go.Proofs.YtafadpaljanghaaGreatDoor
namespace Go.Proofs.YtafadpaljanghaaGreatDoor
set_option linter.unusedSimpArgs false
open Go.RowKit
set_option linter.unusedVariables false
def Mx.stps (x : Mx) : List (Int × Nat × Int) := if x.chk = 0 then x.steps (x.n - 1) else []
def sC (p : Int × Nat × Int) : List Value := [.int .i64 p.1, .int .i64 (p.2.1 : Int), .int .i64 p.2.2]
def StpR (x : Mx) (e : Ending) (w' : World) : Prop := ∃ A c, e = .returned (.tuple #[.slice A x.stps.length c, .int .i64 x.chk]) ∧ Reads w' w'.heap.size 3 A x.stps.length (x.stps.flatMap sC)
theorem StpR.bad {x : Mx} {r : Int} {w' : World} (h : x.chk = r) (h0 : r ≠ 0) : StpR x (.returned (.tuple #[.slice none 0 0, .int .i64 r])) w' := by
  have e : x.stps = [] := (by unfold Mx.stps; rw [if_neg (by rw [h]; exact h0)]); exact ⟨none, 0, by rw [e, h]; rfl, by rw [e]; exact Reads.none_⟩
end Go.Proofs.YtafadpaljanghaaGreatDoor
namespace Go.Proofs.YtafadpaljanghaaGreatDoor
set_option linter.unusedSimpArgs false
open Go.RowKit
set_option linter.unusedVariables false
def okT (l : List (Nat × Int)) : Prop := l.length ≤ 16 ∧ ∀ x ∈ l, 1 ≤ x.1 ∧ x.1 ≤ 1000000000000 ∧ -1000000000 ≤ x.2 ∧ x.2 ≤ 1000000000
set_option maxHeartbeats 800000 in
set_option maxRecDepth 100000 in
theorem rcheck_ok (A : Option Addr) (n c : Nat) (l : List (Nat × Int)) (w : World) (hl : TR w A n l) (hok : okT l) :
    Calls Tryz.prog 78 #[.slice A n c] w fun e w' => e = .returned (.int .i64 0) ∧ Below w.heap.size w w' := by
  have hn : n ≤ 16 := (by rw [← hl.1]; exact hok.1); have HL : Sl _ := ⟨hl⟩; have HK : Sl _ := ⟨hok⟩; clear hl hok; go_enter Tryz.func78, Tryz.ntmps78; go_wp2_with fail
  go_loopw [10] (fun s10 wr => ∃ i : Nat, i ≤ n ∧ s10 = .int .i64 i ∧ Below w.heap.size w wr) (fun s10 _ => n - (RowKit.intOf s10).toNat)
  case atStart => exact ⟨0, Nat.zero_le _, rfl, Below.refl _ _⟩
  case round =>
    obtain ⟨i, hi, rfl, hB⟩ := hrel
    by_cases hin : i < n
    · obtain ⟨⟨nn, kk⟩, hx⟩ : ∃ x, l[i]? = some x := ⟨_, List.getElem?_eq_getElem (by rw [HL.out.1]; exact hin)⟩; obtain ⟨ad, rfl, hab, c1, c2⟩ := (HL.out.below hB).cells hx
      have e1 : (ad.add (i * 2)).add 1 = ⟨(ad.add (i * 2)).block, (ad.add (i * 2)).off + 1, none⟩ := by
        generalize ad.add (i * 2) = a1; simp [Addr.add]
      rw [← add_of_add, e1] at c2; have hk := HK.out.2 _ (List.mem_of_getElem? hx); obtain ⟨k1, k2, k3, k4⟩ := hk; simp only [] at k1 k2 k3 k4; have hB1 := hB.alloc hB.size (.cells #[.int .i64 (nn : Int), .int .i64 kk] 69); clear e1 hx; go_wp2_with fail; exact ⟨⟨i + 1, hin, by go_num, hB1⟩, by simp [RowKit.intOf]; omega⟩
    · obtain rfl : i = n := (by omega); go_wp2_with fail; go_ret; exact ⟨rfl, hB⟩
end Go.Proofs.YtafadpaljanghaaGreatDoor
namespace Go.Proofs.YtafadpaljanghaaGreatDoor
set_option linter.unusedSimpArgs false
open Go.RowKit
set_option linter.unusedVariables false
def scaled (l : List (Nat × Int)) (s : Int) : List (Nat × Int) := l.map fun x => (x.1, x.2 * s)
def atM (l : List (Nat × Int)) (s den m : Int) : List (Nat × Int) := scaled l s ++ [(2, -m * den)]
def FloorRes (l : List (Nat × Int)) (s den : Int) (sg : Int → Int) (e : Ending) : Prop :=
  if 0 ≤ sg 1000000000001 ∨ sg (-1000000000000) < 0 then e = .returned (.tuple #[.int .i64 0, .bool false, .int .i64 7])
  else ∃ m : Int, -1000000000000 ≤ m ∧ m < 1000000000001 ∧ 0 ≤ sg m ∧ sg (m + 1) < 0 ∧ e = .returned (.tuple #[.int .i64 m, .bool (decide (up (atM l s den m) = down (atM l s den m))), .int .i64 0])
def flat (l : List (Nat × Int)) : List Value := l.flatMap fun x => [.int .i64 (x.1 : Int), .int .i64 x.2]
set_option maxHeartbeats 6400000 in
set_option maxRecDepth 100000 in
theorem Floor_any (A : Option Addr) (n c : Nat) (l : List (Nat × Int)) (den s : Int) (sg : Int → Int) (w : World) (hl : TR w A n l) (hok : okT l) (hd1 : 1 ≤ den) (hd2 : den ≤ 1000) (hs1 : 1 ≤ s) (hs2 : s ≤ 10000000)
    (hsg : ∀ m, -1000000000000 ≤ m → m ≤ 1000000000001 → SignTo (atM l s den m) (sg m)) :
    Calls Tryz.prog 56 #[.slice A n c, .int .i64 den, .int .i64 s] w fun e w' => FloorRes l s den sg e ∧ Below w.heap.size w w' := by
  have hn : n ≤ 16 := (by rw [← hl.1]; exact hok.1); have HL : Sl _ := ⟨hl⟩; have HK : Sl _ := ⟨hok⟩; have HS : Sl _ := ⟨hsg⟩; clear hl hok hsg; obtain ⟨i0, hi0, hz0, hz1, hz2⟩ := info_term; have HI : Sl _ := ⟨And.intro hi0 (And.intro hz0 (And.intro hz1 hz2))⟩
  have hmk : ∀ W : World, (Instr.makeSlice 70 (.int .i64 0) (.int .i64 ((n : Int) + 1))).run Tryz.prog W = .ok (.slice (some ⟨W.heap.size, 0, none⟩) 0 (n + 1)) (W.alloc (.cells (madeCells #[.int .i64 0, .int .i64 0] ((n + 1) * 2)) 69)) := fun W => by
    have h := run_make (P := Tryz.prog) W 70 69 i0 (.agg #[.int .i64 0, .int .i64 0]) Tryz.underlying70 hi0 hz0 .i64 .i64 0 ((n : Int) + 1) (by omega) (by omega) (by rw [hz2]; omega) (by omega); rw [hz1] at h; rw [show (Value.agg #[.int .i64 0, .int .i64 0]).cells = #[.int .i64 0, .int .i64 0] from rfl] at h; simpa using h
  clear hi0 hz0 hz1 hz2; have HCK : Sl (∀ W : World, TR W A n l → Calls Tryz.prog 78 #[.slice A n c] W fun e w' => e = .returned (.int .i64 0) ∧ Below W.heap.size W w') := ⟨fun W h => rcheck_ok A n c l W h HK.out⟩; go_enter Tryz.func56, Tryz.ntmps56; have hu0 : Below w.heap.size w ((w.alloc (.cells #[.slice A n c] 70)).alloc (.cells #[.int .i64 den] 2)) := ((Below.refl _ _).alloc (Nat.le_refl _) _).alloc (by simp) _; have B3 := (Blk.new w 70 #[.slice A n c]).alloc (.cells #[.int .i64 den] 2); have B4 := Blk.new (w.alloc (.cells #[.slice A n c] 70)) 2 #[.int .i64 den]; rw [show (w.alloc (.cells #[.slice A n c] 70)).heap.size = w.heap.size + 1 by simp] at B4; go_wp2_with fail; generalize (w.alloc (.cells #[.slice A n c] 70)).alloc (.cells #[.int .i64 den] 2) = w0 at *
  refine (HCK.out _ (HL.out.below hu0)).mono ?_; rintro e w1 ⟨rfl, hb1⟩; have hu1 := hu0.trans (hb1.mono hu0.size); have C3 := B3.below hb1 B3.lt; have C4 := B4.below hb1 B4.lt; have c3 := C3.cell 0; have c4 := C4.cell 0; simp at c3 c4; have er : (w1.alloc (.cells (madeCells #[.int .i64 0, .int .i64 0] ((n + 1) * 2)) 69)).heap.size = w1.heap.size + 1 := (by simp); have D3 := (C3.alloc (.cells (madeCells #[.int .i64 0, .int .i64 0] ((n + 1) * 2)) 69)).alloc (.cells #[.slice (some ⟨w1.heap.size, 0, none⟩) 0 (n + 1)] 70); have D4 := (C4.alloc (.cells (madeCells #[.int .i64 0, .int .i64 0] ((n + 1) * 2)) 69)).alloc (.cells #[.slice (some ⟨w1.heap.size, 0, none⟩) 0 (n + 1)] 70); have D5 := Blk.new (w1.alloc (.cells (madeCells #[.int .i64 0, .int .i64 0] ((n + 1) * 2)) 69)) 70 #[.slice (some ⟨w1.heap.size, 0, none⟩) 0 (n + 1)]; rw [er] at D5; have hu2 := (hu1.alloc hu1.size (.cells (madeCells #[.int .i64 0, .int .i64 0] ((n + 1) * 2)) 69)).alloc (by rw [er]; have := hu1.size; omega) (.cells #[.slice (some ⟨w1.heap.size, 0, none⟩) 0 (n + 1)] 70); have hrow := World.ownsRow_made (e := 69) (size := 2) w1 (madeCells #[.int .i64 0, .int .i64 0] ((n + 1) * 2)) (n + 1) hu1.size (by unfold maxLen; omega) (by simp [madeCells])
  have hrow2 : ((w1.alloc (.cells (madeCells #[.int .i64 0, .int .i64 0] ((n + 1) * 2)) 69)).alloc (.cells #[.slice (some ⟨w1.heap.size, 0, none⟩) 0 (n + 1)] 70)).ownsRow w.heap.size 69 2 (.slice (some ⟨w1.heap.size, 0, none⟩) 0 (n + 1)) 0 [] := by
    refine ⟨hrow.1, ?_⟩; rcases hrow.2 with h | ⟨g, cap, cur, e, hb, hg, h1⟩
    · exact .inl h
    · exact .inr ⟨g, cap, cur, e, hb, (Below.heap_alloc _ _ _ (Blk.lt (t := 69) (cs := cur) hg)).trans hg, h1⟩
  have d3 := D3.cell 0; have d4 := D4.cell 0; simp at d3 d4; have h16 : w.heap.size + 1 < w1.heap.size + 1 := (by have := C4.lt; omega); have h17 : w.heap.size < w1.heap.size + 1 := (by omega); have HW : Sl _ := ⟨And.intro hu2 (And.intro D3 (And.intro D4 (And.intro D5 hrow2)))⟩; clear hu0 hb1 B3 B4 hu1 C3 C4 HCK D3 D4 D5 hu2 hrow hrow2 er; go_wp2_with fail; generalize (w1.alloc (.cells (madeCells #[.int .i64 0, .int .i64 0] ((n + 1) * 2)) 69)).alloc (.cells #[.slice (some ⟨w1.heap.size, 0, none⟩) 0 (n + 1)] 70) = w2 at *
  have hTR2 : TR w2 A n l := HL.out.below HW.out.1; generalize w1.heap.size + 1 = G at *
  generalize w1.heap.size = G1 at *
  go_loopw [40] (fun s40 wr => ∃ (i g c' : Nat), i ≤ n ∧ i ≤ c' ∧ s40 = .int .i64 i ∧ Sl (Below w.heap.size w wr ∧ Blk wr w.heap.size 70 #[.slice A n c] ∧ Blk wr (w.heap.size + 1) 2 #[.int .i64 den] ∧ Blk wr G 70 #[.slice (some ⟨g, 0, none⟩) i c'] ∧ wr.ownsRow w.heap.size 69 2 (.slice (some ⟨g, 0, none⟩) i c') i (flat (scaled (l.take i) s)))) (fun s40 _ => n - (RowKit.intOf s40).toNat)
  case atStart => exact ⟨0, G1, n + 1, Nat.zero_le _, Nat.zero_le _, rfl, ⟨HW.out.1, HW.out.2.1, HW.out.2.2.1, HW.out.2.2.2.1, HW.out.2.2.2.2⟩⟩
  case round =>
    clear HW; obtain ⟨i, g, c', hi, hic, rfl, HR⟩ := hrel
    by_cases hin : i < n
    · obtain ⟨⟨nn, kk⟩, hx⟩ : ∃ x, l[i]? = some x := ⟨_, List.getElem?_eq_getElem (by rw [HL.out.1]; exact hin)⟩; obtain ⟨ad, rfl, hab, e1, e2⟩ := (HL.out.below HR.out.1).cells hx
      have e3 : (ad.add (i * 2)).add 1 = ⟨(ad.add (i * 2)).block, (ad.add (i * 2)).off + 1, none⟩ := by
        generalize ad.add (i * 2) = a1; simp [Addr.add]
      rw [← add_of_add, e3] at e2; have hnn := HK.out.2 _ (List.mem_of_getElem? hx); simp only [] at hnn e1 e2
      have hks : (kk * s).natAbs ≤ 1000000000 * 10000000 := by
        rw [Int.natAbs_mul]; exact Nat.mul_le_mul (by omega) (by omega)
      have hwrp : IntKind.i64.wrap (kk * s) = kk * s := by
        generalize kk * s = y at *
        rw [IntKind.wrap_i64]; omega
      have hG : wr.cell? ⟨G, 0, none⟩ = some (.slice (some ⟨g, 0, none⟩) i c') := HR.out.2.2.2.1.cell 0; have hGl := HR.out.2.2.2.1.lt; obtain ⟨y, hy⟩ : ∃ y, kk * s = y := ⟨_, rfl⟩; have hwrp2 : IntKind.i64.wrap (kk * s) = y := (by rw [hwrp]; exact hy); have HY : Sl _ := ⟨And.intro hy hx⟩; have ha1 := HR.out.1.alloc HR.out.1.size (.cells #[.int .i64 (nn : Int), .int .i64 kk] 69); have ha2 := ha1.alloc ha1.size (.cells #[.int .i64 (nn : Int), .int .i64 y] 69)
      have hof : World.ownsRow ((wr.alloc (.cells #[.int .i64 (nn : Int), .int .i64 kk] 69)).alloc (.cells #[.int .i64 (nn : Int), .int .i64 y] 69)) w.heap.size 69 2 (.slice (some ⟨g, 0, none⟩) i c') i (flat (scaled (l.take i) s)) := by
        have ho := HR.out.2.2.2.2; refine ⟨ho.1, ?_⟩; rcases ho.2 with h | ⟨g', cap, cur, e, hb, hg, h1⟩
        · exact .inl h
        · have hl1 := Blk.lt (t := 69) (cs := cur) hg; exact .inr ⟨g', cap, cur, e, hb, (Below.heap_alloc _ _ _ (by simp; omega)).trans ((Below.heap_alloc _ _ _ hl1).trans hg), h1⟩
      have HA : Sl _ := ⟨And.intro ha1 (And.intro ha2 hof)⟩; have b3 := (HR.out.2.1.alloc (.cells #[.int .i64 (nn : Int), .int .i64 kk] 69)).alloc (.cells #[.int .i64 (nn : Int), .int .i64 y] 69); have b4 := (HR.out.2.2.1.alloc (.cells #[.int .i64 (nn : Int), .int .i64 kk] 69)).alloc (.cells #[.int .i64 (nn : Int), .int .i64 y] 69); have b5 := (HR.out.2.2.2.1.alloc (.cells #[.int .i64 (nn : Int), .int .i64 kk] 69)).alloc (.cells #[.int .i64 (nn : Int), .int .i64 y] 69); have HBS : Sl _ := ⟨And.intro b3 (And.intro b4 b5)⟩
      have HNW : Sl (Reads ((wr.alloc (.cells #[.int .i64 (nn : Int), .int .i64 kk] 69)).alloc (.cells #[.int .i64 (nn : Int), .int .i64 y] 69)) (wr.heap.size + 2) 2 (some ⟨wr.heap.size + 1, 0, none⟩) 1 [.int .i64 (nn : Int), .int .i64 y]) := ⟨by
        refine ⟨rfl, fun _ => ⟨_, rfl, Nat.lt_succ_self _, fun j u hu => ?_⟩⟩; have hb := Blk.new (wr.alloc (.cells #[.int .i64 (nn : Int), .int .i64 kk] 69)) 69 #[.int .i64 (nn : Int), .int .i64 y]; rw [show (wr.alloc (.cells #[.int .i64 (nn : Int), .int .i64 kk] 69)).heap.size = wr.heap.size + 1 by simp] at hb
        have e : (⟨wr.heap.size + 1, 0, none⟩ : Addr).add j = ⟨wr.heap.size + 1, j, none⟩ := by
          unfold Addr.add
          by_cases h : j = 0
          · subst h; simp
          · simp [h]
        rw [e, hb.cell]
        simpa using hu⟩
      have HSZ : Sl (w.heap.size ≤ ((wr.alloc (.cells #[.int .i64 (nn : Int), .int .i64 kk] 69)).alloc (.cells #[.int .i64 (nn : Int), .int .i64 y] 69)).heap.size) := ⟨ha2.size⟩; clear e3 hx hy hwrp hks ha1 ha2 hof b3 b4 b5; go_wp2_with (at_builtin; go_loud (refine wpList_append_any _ rfl (.tmp 44) (.tmp 52) _ rfl w.heap.size 69 i0 _ 2 16 Tryz.underlying70 HI.out.1 HI.out.2.1 HI.out.2.2.1 HI.out.2.2.2 rfl (by decide) (.slice (some ⟨g, 0, none⟩) i c') i _ rfl HA.out.2.2 _ (some ⟨wr.heap.size + 1, 0, none⟩) 1 1 [.int .i64 (nn : Int), .int .i64 y] rfl HNW.out (by simp; exact ⟨rfl, rfl⟩) (by unfold maxLen; omega) (by omega) HSZ.out ?_; intro v1 w5 hown1 hg1 hat1; have b55 := HBS.out.2.2.grown hg1 (fun e => own_blk_ne HA.out.2.2 HBS.out.2.2 (by decide) e.symm); have c55 : w5.cell? ⟨G, 0, none⟩ = some (.slice (some ⟨g, 0, none⟩) i c') := b55.cell 0; have f55 := b55.frozen 0; obtain ⟨g5, c5, rfl, hfb, hfl⟩ := hown1.form (Nat.succ_pos i)))
      have hc5 : i + 1 ≤ c5 := by
        rcases hown1.2 with ⟨e, _⟩ | ⟨g', cap, cur, e, _, _, hh, _⟩
        · cases e
        · injection e with _ _ e; subst e; exact hh
      have hbw := HA.out.2.1.grown hg1 HSZ.out (fun k hk => (HA.out.2.2.lt k hk).1); have b53 := HBS.out.1.grown hg1 (fun e => own_blk_ne HA.out.2.2 HBS.out.1 (by decide) e.symm); have b54 := HBS.out.2.1.grown hg1 (fun e => own_blk_ne HA.out.2.2 HBS.out.2.1 (by decide) e.symm)
      have hne : some G ≠ (Value.slice (some ⟨g5, 0, none⟩) (i + 1) c5).ownBlock := by
        rcases hat1 with h | h
        · rw [h]; exact fun e => own_blk_ne HA.out.2.2 HBS.out.2.2 (by decide) e.symm
        · rw [h]; intro e; injection e with e
          have := HBS.out.2.2.lt; omega
      have hgg : g5 ≠ G := fun e => hne (by rw [e]; rfl)
      have hfin : Sl (Below w.heap.size w (w5.setCell ⟨G, 0, none⟩ (.slice (some ⟨g5, 0, none⟩) (i + 1) c5)) ∧ Blk (w5.setCell ⟨G, 0, none⟩ (.slice (some ⟨g5, 0, none⟩) (i + 1) c5)) w.heap.size 70 #[.slice (some ad) n c] ∧ Blk (w5.setCell ⟨G, 0, none⟩ (.slice (some ⟨g5, 0, none⟩) (i + 1) c5)) (w.heap.size + 1) 2 #[.int .i64 den] ∧ Blk (w5.setCell ⟨G, 0, none⟩ (.slice (some ⟨g5, 0, none⟩) (i + 1) c5)) G 70 #[.slice (some ⟨g5, 0, none⟩) (i + 1) c5] ∧ World.ownsRow (w5.setCell ⟨G, 0, none⟩ (.slice (some ⟨g5, 0, none⟩) (i + 1) c5)) w.heap.size 69 2 (.slice (some ⟨g5, 0, none⟩) (i + 1) c5) (i + 1) (flat (scaled (l.take (i + 1)) s))) := ⟨by
        refine ⟨hbw.setCell (p := ⟨G, 0, none⟩) (by show w.heap.size ≤ G; omega) _, b53.far (p := ⟨G, 0, none⟩) (by show w.heap.size ≠ G; omega) _, b54.far (p := ⟨G, 0, none⟩) (by show w.heap.size + 1 ≠ G; omega) _, b55.set_ 0 _, ?_, ?_⟩
        · have h1 := hown1.1; rw [List.take_add_one, HY.out.2]; show (flat (scaled (l.take i ++ [(nn, kk)]) s)).length = _; unfold flat scaled at h1 ⊢; rw [List.map_append, List.flatMap_append]; simpa using h1
        · rcases hown1.2 with ⟨e, _⟩ | ⟨g', cap, cur, e, hb, hg, hh, h4, h5, h6⟩
          · cases e
          · injection e with e1 e2 e3
            injection e1 with e1
            injection e1 with e1
            subst e1 e3; refine .inr ⟨g5, c5, cur, rfl, hb, (Below.heap_setCell _ _ _ _ hgg).trans hg, hh, h4, h5, ?_⟩; rw [h6, List.take_add_one, HY.out.2]; show _ = flat (scaled (l.take i ++ [(nn, kk)]) s); unfold flat scaled; rw [List.map_append, List.flatMap_append, ← HY.out.1]
            rfl⟩
      exact ⟨⟨i + 1, g5, c5, hin, hc5, by go_num, hfin⟩, by simp [RowKit.intOf]; omega⟩
    · obtain rfl : i = n := (by omega); clear hin HI hmk i0
      have hT0 : TR wr (some ⟨g, 0, none⟩) i (scaled l s) := by
        have ho := HR.out.2.2.2.2; rw [List.take_of_length_le (by rw [HL.out.1]; exact Nat.le_refl _)] at ho; exact ⟨by unfold scaled; rw [List.length_map, HL.out.1], Reads.of_own ho⟩
      have ba := HR.out.2.2.2.1.alloc (.cells #[.func (.func 79) #[] #[.pointer (some ⟨G, 0, none⟩), .pointer (some ⟨w.heap.size, 0, none⟩), .pointer (some ⟨w.heap.size + 1, 0, none⟩)]] 119); have bl := HR.out.2.1.alloc (.cells #[.func (.func 79) #[] #[.pointer (some ⟨G, 0, none⟩), .pointer (some ⟨w.heap.size, 0, none⟩), .pointer (some ⟨w.heap.size + 1, 0, none⟩)]] 119); have bd := HR.out.2.2.1.alloc (.cells #[.func (.func 79) #[] #[.pointer (some ⟨G, 0, none⟩), .pointer (some ⟨w.heap.size, 0, none⟩), .pointer (some ⟨w.heap.size + 1, 0, none⟩)]] 119); have bq := Blk.new wr 119 #[.func (.func 79) #[] #[.pointer (some ⟨G, 0, none⟩), .pointer (some ⟨w.heap.size, 0, none⟩), .pointer (some ⟨w.heap.size + 1, 0, none⟩)]]; have hB3 := HR.out.1.alloc HR.out.1.size (.cells #[.func (.func 79) #[] #[.pointer (some ⟨G, 0, none⟩), .pointer (some ⟨w.heap.size, 0, none⟩), .pointer (some ⟨w.heap.size + 1, 0, none⟩)]] 119); have hT3 := hT0.below ((Below.refl wr.heap.size wr).alloc (Nat.le_refl _) (.cells #[.func (.func 79) #[] #[.pointer (some ⟨G, 0, none⟩), .pointer (some ⟨w.heap.size, 0, none⟩), .pointer (some ⟨w.heap.size + 1, 0, none⟩)]] 119))
      have HFA : Sl (∀ (m : Int) (W : World), -1000000000000 ≤ m → m ≤ 1000000000001 → Below (wr.alloc (.cells #[.func (.func 79) #[] #[.pointer (some ⟨G, 0, none⟩), .pointer (some ⟨w.heap.size, 0, none⟩), .pointer (some ⟨w.heap.size + 1, 0, none⟩)]] 119)).heap.size (wr.alloc (.cells #[.func (.func 79) #[] #[.pointer (some ⟨G, 0, none⟩), .pointer (some ⟨w.heap.size, 0, none⟩), .pointer (some ⟨w.heap.size + 1, 0, none⟩)]] 119)) W → Calls Tryz.prog 79 #[.int .i64 m, .pointer (some ⟨G, 0, none⟩), .pointer (some ⟨w.heap.size, 0, none⟩), .pointer (some ⟨w.heap.size + 1, 0, none⟩)] W fun e w' => (∃ A' c', e = .returned (.slice A' (i + 1) c') ∧ TR w' A' (i + 1) (atM l s den m)) ∧ Below W.heap.size W w') := ⟨fun m W h1 h2 hb => by
        have x1 := ba.below hb ba.lt; have x2 := bl.below hb bl.lt; have x3 := bd.below hb bd.lt
        have hmd : (m * den).natAbs ≤ 1000000000001 * 1000 := by
          rw [Int.natAbs_mul]; exact Nat.mul_le_mul (by omega) (by omega)
        rw [Int.natAbs_mul] at hmd; have hmd2 : ((-m) * den).natAbs ≤ 1000000000001 * 1000 := (by rw [Int.natAbs_mul, Int.natAbs_neg]; exact hmd)
        have hmd3 : -1000000000000000000 ≤ (-m) * den ∧ (-m) * den ≤ 1000000000000000000 := by
          generalize (-m) * den = y at *
          omega
        exact at_any m den ⟨G, 0, none⟩ ⟨w.heap.size, 0, none⟩ ⟨w.heap.size + 1, 0, none⟩ ⟨g, 0, none⟩ A i c' c (scaled l s) W (x1.cell 0) (x2.cell 0) (x3.cell 0) x1.lt x2.lt x3.lt (hT3.below hb) hic (by omega) (by omega) (by omega) hmd3.1 hmd3.2⟩
      have HFI : Sl (∀ (m : Int) (W : World), -1000000000000 ≤ m → m ≤ 1000000000001 → Below (wr.alloc (.cells #[.func (.func 79) #[] #[.pointer (some ⟨G, 0, none⟩), .pointer (some ⟨w.heap.size, 0, none⟩), .pointer (some ⟨w.heap.size + 1, 0, none⟩)]] 119)).heap.size (wr.alloc (.cells #[.func (.func 79) #[] #[.pointer (some ⟨G, 0, none⟩), .pointer (some ⟨w.heap.size, 0, none⟩), .pointer (some ⟨w.heap.size + 1, 0, none⟩)]] 119)) W → Calls Tryz.prog 80 #[.int .i64 m, .pointer (some ⟨wr.heap.size, 0, none⟩)] W fun e w' => e = .returned (.bool (decide (0 ≤ sg m))) ∧ Below W.heap.size W w') := ⟨fun m W h1 h2 hb => by
        have x0 := bq.below hb bq.lt; have x1 := ba.below hb ba.lt; have x2 := bl.below hb bl.lt; have x3 := bd.below hb bd.lt
        have hmd2 : ((-m) * den).natAbs ≤ 1000000000001 * 1000 := by
          rw [Int.natAbs_mul, Int.natAbs_neg]; exact Nat.mul_le_mul (by omega) (by omega)
        have hmd3 : -1000000000000000000 ≤ (-m) * den ∧ (-m) * den ≤ 1000000000000000000 := by
          generalize (-m) * den = y at *
          omega
        exact is_any m den (sg m) ⟨wr.heap.size, 0, none⟩ ⟨G, 0, none⟩ ⟨w.heap.size, 0, none⟩ ⟨w.heap.size + 1, 0, none⟩ ⟨g, 0, none⟩ A i c' c (scaled l s) W (x0.cell 0) (x1.cell 0) (x2.cell 0) (x3.cell 0) x1.lt x2.lt x3.lt (hT3.below hb) hic (by omega) (by omega) (by omega) hmd3.1 hmd3.2 (HS.out m h1 h2)⟩
      have hrun1 : ∀ (args : Array Value) (w : World), (callFunc 79 args).run Tryz.prog w = .ok (.enter 79 args) w := fun a w => by go_simp
      have hrun2 : ∀ (args : Array Value) (w : World), (callFunc 80 args).run Tryz.prog w = .ok (.enter 80 args) w := fun a w => by go_simp
      have HQ : Sl _ := ⟨And.intro hB3 bq⟩; clear ba bl bd bq hB3 hT3 hT0 HR HS; have c1 := HFI.out 1000000000001 _ (by decide) (by decide) (Below.refl _ _)
      by_cases h1 : 0 ≤ sg 1000000000001
      · rw [decide_eq_true h1] at c1; have HC1 : Sl _ := ⟨c1⟩; have H1 : Sl _ := ⟨h1⟩; clear c1 h1; go_wp2_with fail; refine HC1.out.mono ?_; rintro e w5 ⟨rfl, hb5⟩; go_wp2_with fail
        go_ret3
        exact ⟨by unfold FloorRes; rw [if_pos (.inl H1.out)]; rfl, HQ.out.1.trans (hb5.mono HQ.out.1.size)⟩
      · rw [decide_eq_false h1] at c1; have HC1 : Sl _ := ⟨c1⟩; clear c1
        by_cases h2 : sg (-1000000000000) < 0
        · have c2 := fun W hb => HFI.out (-1000000000000) W (by decide) (by decide) hb
          rw [decide_eq_false (by omega)] at c2; have HC2 : Sl _ := ⟨c2⟩; have H2 : Sl _ := ⟨h2⟩; clear c2 h1 h2; go_wp2_with fail; refine HC1.out.mono ?_; rintro e w5 ⟨rfl, hb5⟩; go_wp2_with fail; refine (HC2.out w5 hb5).mono ?_; rintro e w6 ⟨rfl, hb6⟩; go_wp2_with fail
          go_ret3
          exact ⟨by unfold FloorRes; rw [if_pos (.inr H2.out)]; rfl, (HQ.out.1.trans (hb5.mono HQ.out.1.size)).trans (hb6.mono (Nat.le_trans HQ.out.1.size hb5.size))⟩
        · have c2 := fun W hb => HFI.out (-1000000000000) W (by decide) (by decide) hb
          rw [decide_eq_true (by omega)] at c2; have HC2 : Sl _ := ⟨c2⟩; have H2 : Sl _ := ⟨And.intro h1 h2⟩; clear c2 h1 h2; go_wp2_with fail; refine HC1.out.mono ?_; rintro e w5 ⟨rfl, hb5⟩; go_wp2_with fail; refine (HC2.out w5 hb5).mono ?_; rintro e w6 ⟨rfl, hb6⟩; have hb7 := hb5.trans (hb6.mono hb5.size); go_wp2_with fail; refine (greatest_any (.pointer (some ⟨wr.heap.size, 0, none⟩)) (fun m => decide (0 ≤ sg m)) (-1000000000000) 1000000000001 w6 (by decide) (by decide) (by decide) (fun m W hm1 hm2 hbW => HFI.out m W (by omega) (by omega) (hb7.trans (hbW.mono hb7.size)))).mono ?_; rintro e w7 ⟨⟨m, rfl, hm1, hm2, hm3, hm4⟩, hb8⟩; have hb9 := hb7.trans (hb8.mono hb7.size)
          have hpos : 0 ≤ sg m := by
            rcases hm3 with h | h
            · rw [h]; have := H2.out.2; omega
            · simpa using h
          have hneg : sg (m + 1) < 0 := by
            rcases hm4 with h | h
            · rw [h]; have := H2.out.1; omega
            · have := of_decide_eq_false h; omega
          have cq := (HQ.out.2.below hb9 HQ.out.2.lt).cell 0; simp at cq; have HM : Sl _ := ⟨And.intro hpos (And.intro hneg (And.intro hm1 hm2))⟩
          have hoe : okE (atM l s den m) := by
            refine ⟨by unfold atM scaled; simp; rw [HL.out.1]; omega, fun x hx => ?_⟩; unfold atM at hx; rw [List.mem_append] at hx; rcases hx with hx | hx
            · unfold scaled at hx; obtain ⟨y, hy, rfl⟩ := List.mem_map.1 hx; have hk := HK.out.2 y hy; refine ⟨hk.1, hk.2.1, ?_⟩; show (y.2 * s).natAbs ≤ _; rw [Int.natAbs_mul]; have h5 : y.2.natAbs * s.natAbs ≤ 1000000000 * 10000000 := Nat.mul_le_mul (by omega) (by omega); omega
            · simp only [List.mem_singleton] at hx; subst hx; refine ⟨by show 0 < 2; decide, by show 2 ≤ 1000000000000; decide, ?_⟩; show (-m * den).natAbs ≤ _; rw [Int.natAbs_mul, Int.natAbs_neg]; have h5 : m.natAbs * den.natAbs ≤ 1000000000001 * 1000 := Nat.mul_le_mul (by omega) (by omega); omega
          have HOE : Sl _ := ⟨hoe⟩; have hA := HFA.out m w7 (by omega) (by omega) hb9; have HAT : Sl _ := ⟨hA⟩; clear hoe hA hpos hneg hm1 hm2 hm3 hm4; go_wp2_with fail; refine HAT.out.mono ?_; rintro e w8 ⟨⟨A8, c8, rfl, hT8⟩, hb10⟩; have hO := one_any A8 (i + 1) c8 _ w8 hT8 HOE.out; have HON : Sl _ := ⟨hO⟩; clear hO hT8; obtain ⟨q, hq⟩ : ∃ q, decide (up (atM l s den m) = down (atM l s den m)) = q := ⟨_, rfl⟩; rw [hq] at HON; have HQQ : Sl _ := ⟨hq⟩; clear hq; go_wp2_with fail; refine HON.out.mono ?_; rintro e w9 ⟨rfl, hb11⟩; go_wp2_with fail
          go_ret3
          refine ⟨?_, ?_⟩
          · unfold FloorRes; rw [if_neg (by have := H2.out; omega)]; exact ⟨m, HM.out.2.2.1, HM.out.2.2.2, HM.out.1, HM.out.2.1, by rw [HQQ.out]; rfl⟩
          · have k1 := HQ.out.1.trans (hb9.mono HQ.out.1.size); have k2 := k1.trans (hb10.mono k1.size); exact k2.trans (hb11.mono k2.size)
end Go.Proofs.YtafadpaljanghaaGreatDoor
namespace Go.Proofs.YtafadpaljanghaaGreatDoor
set_option linter.unusedSimpArgs false
open Go.RowKit
set_option linter.unusedVariables false
def Knows (l : List (Nat × Int)) (s : Int) : Prop := ∀ (A : Option Addr) (n c : Nat) (W : World), TR W A n l → Calls Tryz.prog 105 #[.slice A n c] W fun e w' => e = .returned (.tuple #[.int .i64 s, .bool true]) ∧ Below W.heap.size W w'
set_option maxHeartbeats 800000 in
theorem sign_known (l : List (Nat × Int)) (s : Int) (hk : Knows l s) : SignTo l s := by
  intro A n c w hl; have HG : Sl _ := ⟨hk A n c w hl⟩; clear hk hl; go_enter Tryz.func81, Tryz.ntmps81; go_wp2_with fail; refine HG.out.mono ?_; rintro e w1 ⟨rfl, hb⟩; go_wp2_with fail; go_ret; exact ⟨rfl, hb⟩
end Go.Proofs.YtafadpaljanghaaGreatDoor
namespace Go.Proofs.YtafadpaljanghaaGreatDoor
set_option linter.unusedSimpArgs false
open Go.RowKit
set_option linter.unusedVariables false
set_option maxHeartbeats 800000 in
theorem wgcd_any (a b : Nat) (w : World) (ha : a < 4000000000000000000) (hb : b < 4000000000000000000) :
    Calls Tryz.prog 76 #[.int .i64 a, .int .i64 b] w fun e w' => e = .returned (.int .i64 (Nat.gcd a b)) ∧ ∃ m, w' = w.drewN m := by
  go_enter Tryz.func76, Tryz.ntmps76; go_wp2_with fail
  go_loopw [0, 1] (fun s0 s1 wr => ∃ (x y : Nat), s0 = .int .i64 x ∧ s1 = .int .i64 y ∧ x < 4000000000000000000 ∧ y < 4000000000000000000 ∧ Sl (Nat.gcd x y = Nat.gcd a b ∧ ∃ m, wr = w.drewN m)) (fun _ s1 _ => (RowKit.intOf s1).toNat)
  case atStart => exact ⟨a, b, rfl, rfl, ha, hb, ⟨rfl, 0, rfl⟩⟩
  case round =>
    clear ha hb; obtain ⟨x, y, rfl, rfl, hx, hy, HG⟩ := hrel; rcases Nat.eq_zero_or_pos y with h0 | h0
    · subst h0; go_wp2_with fail; go_ret; obtain ⟨h1, m, h2⟩ := HG.out; rw [Nat.gcd_zero_right] at h1; exact ⟨by rw [← h1]; rfl, m, h2⟩
    · have hne : ((y : Int) == 0) = false := (by rw [beq_eq_false_iff_ne]; omega); have hmod : (x : Int).tmod (y : Int) = ((x % y : Nat) : Int) := (by rw [Int.tmod_eq_emod_of_nonneg (by omega)]; omega); have hlt : x % y < y := Nat.mod_lt _ h0; have HGN : Sl (Nat.gcd y (x % y) = Nat.gcd a b) := ⟨by rw [← HG.out.1, Nat.gcd_comm y, ← Nat.gcd_rec, Nat.gcd_comm]⟩; generalize x % y = r at *
      go_wp2_with fail
      go_quiet (fail)
      go_wp2_with fail; obtain ⟨m, hm⟩ := HG.out.2; refine ⟨⟨y, r, rfl, rfl, hy, by omega, ⟨HGN.out, m + nq, by rw [hm]; simp⟩⟩, by simp [RowKit.intOf]; omega⟩
end Go.Proofs.YtafadpaljanghaaGreatDoor
namespace Go.Proofs.YtafadpaljanghaaGreatDoor
set_option linter.unusedSimpArgs false
open Go.RowKit
set_option linter.unusedVariables false
set_option maxHeartbeats 1600000 in
set_option maxRecDepth 100000 in
theorem feet83_valid (w : World) : Calls Tryz.prog 54 #[.agg #[.int .i64 8, .int .i64 3]] w fun e w' => e = .returned (.bool true) ∧ Below w.heap.size w w' := by
  have hu : Below w.heap.size w (w.alloc (.cells #[.int .i64 8, .int .i64 3] 23)) := (Below.refl _ _).alloc (Nat.le_refl _) _; have hg := fun W : World => wgcd_any 8 3 W (by decide) (by decide)
  have e83 : Nat.gcd 8 3 = 1 := (by decide); rw [e83] at hg; have HG : Sl (∀ W : World, Calls Tryz.prog 76 #[.int .i64 8, .int .i64 3] W fun e w' => e = .returned (.int .i64 1) ∧ ∃ m, w' = W.drewN m) := ⟨hg⟩; clear hg e83; go_enter Tryz.func54, Tryz.ntmps54; go_wp2_with fail; refine (HG.out _).mono ?_; rintro e w1 ⟨rfl, m, rfl⟩; go_wp2_with fail; go_ret; exact ⟨rfl, below_drewN hu m⟩
set_option maxHeartbeats 1600000 in
set_option maxRecDepth 100000 in
theorem feet83_any (w : World) : Calls Tryz.prog 24 #[.agg #[.int .i64 8, .int .i64 3]] w fun e w' => (∃ s, e = .returned (.tuple #[.string s, .int .i64 0])) ∧ Below w.heap.size w w' := by
  have hu : Below w.heap.size w (w.alloc (.cells #[.int .i64 8, .int .i64 3] 23)) := (Below.refl _ _).alloc (Nat.le_refl _) _; have X0 := Blk.new w 23 #[.int .i64 8, .int .i64 3]; go_enter Tryz.func24, Tryz.ntmps24; go_wp2_with fail; generalize w.alloc (.cells #[.int .i64 8, .int .i64 3] 23) = w0 at *
  refine (feet83_valid w0).mono ?_; rintro e w1 ⟨rfl, hb⟩; have u1 := hu.trans (hb.mono hu.size); have X1 := X0.below hb X0.lt; have x0 := X1.cell 0; have x1 := X1.cell 1; simp at x0 x1; clear hu hb X0; go_wp2_with fail
  go_quiet (fail)
  have u2 := below_drewN u1 nq; have X2 : Blk (w1.drewN nq) w.heap.size _ _ := X1.drewN nq; clear u1 X1 x0 x1; generalize w1.drewN nq = w2 at *
  have x0 := X2.cell 0; have x1 := X2.cell 1; simp at x0 x1; have hI2 := fun W : World => Tryz.strconv_Itoa_small 2 (by decide) W
  have hI3 := fun W : World => Tryz.strconv_Itoa_small 3 (by decide) W
  have e2 : Lib.decDigits 2 = [50] := (by rw [Lib.decDigits, dif_pos (by decide)]; rfl); have e3 : Lib.decDigits 3 = [51] := (by rw [Lib.decDigits, dif_pos (by decide)]; rfl); rw [e2] at hI2; rw [e3] at hI3; have HI2 : Sl (∀ W : World, Calls Tryz.prog 55 #[.int .i64 2] W fun e w' => e = .returned (.string ⟨#[50]⟩) ∧ w' = W) := ⟨hI2⟩; have HI3 : Sl (∀ W : World, Calls Tryz.prog 55 #[.int .i64 3] W fun e w' => e = .returned (.string ⟨#[51]⟩) ∧ w' = W) := ⟨hI3⟩; clear hI2 hI3 e2 e3; go_wp2_with fail; have hd2 : RowKit.Below w.heap.size w w2.drew := below_drewN u2 1; have xx1 : w2.drew.cell? ⟨w.heap.size, 1, none⟩ = some (.int .i64 3) := x1
  go_region_with (first
    | (go_at_call 55; (with_reducible refine (HI2.out _).mono ?_); rintro e w3 ⟨rfl, rfl⟩)
    | (go_at_call 55; (with_reducible refine (HI3.out _).mono ?_); rintro e w4 ⟨rfl, rfl⟩)
    | fail)
  all_goals (
    clear x0 x1 X2 u2; generalize w2.drew = w5 at *
    go_wp2_with fail; refine (HI2.out _).mono ?_; rintro e w6 ⟨rfl, rfl⟩; go_wp2_with fail; go_ret2
    exact ⟨⟨_, rfl⟩, hd2⟩)
end Go.Proofs.YtafadpaljanghaaGreatDoor
namespace Go.Proofs.YtafadpaljanghaaGreatDoor
set_option linter.unusedSimpArgs false
open Go.RowKit
set_option linter.unusedVariables false
theorem QK_24 : QK 24 := fun W => by
  have h := quick_any 24 4 false W (by decide) (by decide) (by decide +kernel) (by decide) (by decide +kernel) (by decide +kernel); have e : qkc false 24 4 = qk 24 := (by decide +kernel); rw [e] at h; exact h
theorem QK_8 : QK 8 := fun W => by
  have h := quick_any 8 3 true W (by decide) (by decide) (by decide +kernel) (by decide) (by decide +kernel) (by decide +kernel); have e : qkc true 8 3 = qk 8 := (by decide +kernel); rw [e] at h; exact h
theorem QK_2 : QK 2 := fun W => by
  have h := quick_any 2 1 true W (by decide) (by decide) (by decide +kernel) (by decide) (by decide +kernel) (by decide +kernel); have e : qkc true 2 1 = qk 2 := (by decide +kernel); rw [e] at h; exact h
theorem good_83 (k : Int) (hk : k.natAbs < 1000000000000000000) : Good [(24, 24), (8, -24), (2, k)] := by
  refine ⟨fun x hx => ?_, fun x hx => ?_, fun x hx => ?_⟩ <;> (simp only [List.mem_cons, List.not_mem_nil, or_false] at hx; rcases hx with rfl | rfl | rfl)
  · exact QK_24
  · exact QK_8
  · exact QK_2
  · decide
  · decide
  · exact hk
  · exact ⟨by show (qk 24).1 < _; rw [qk_24]; decide, by show (qk 24).2 < _; rw [qk_24]; decide⟩
  · exact ⟨by show (qk 8).1 < _; rw [qk_8]; decide, by show (qk 8).2 < _; rw [qk_8]; decide⟩
  · exact ⟨by show (qk 2).1 < _; rw [qk_2]; decide, by show (qk 2).2 < _; rw [qk_2]; decide⟩
theorem knows_83 (k : Int) (hk : k.natAbs < 1000000000000000000) : Knows [(24, 24), (8, -24), (2, k)] (if -38 ≤ k then 1 else -1) := fun A n c W hT => by
  have hn : n = 3 := hT.1.symm; have h := guess_any A n c _ W hT (by omega) (good_83 k hk); rw [guess_83] at h; exact h
theorem floor_83 (A : Option Addr) (c : Nat) (w : World) (hl : TR w A 2 [(24, 1), (8, -1)]) :
    Calls Tryz.prog 56 #[.slice A 2 c, .int .i64 1, .int .i64 24] w fun e w' => (∃ b : Bool, e = .returned (.tuple #[.int .i64 38, .bool b, .int .i64 0])) ∧ Below w.heap.size w w' := by
  refine (Floor_any A 2 c [(24, 1), (8, -1)] 1 24 (fun m => if m ≤ 38 then 1 else -1) w hl ⟨by decide, fun x hx => ?_⟩ (by decide) (by decide) (by decide) (by decide) (fun m h1 h2 => ?_)).mono fun e w' h => ⟨?_, h.2⟩
  · simp only [List.mem_cons, List.not_mem_nil, or_false] at hx; rcases hx with rfl | rfl <;> decide
  · have e1 : atM [(24, 1), (8, -1)] 24 1 m = [(24, 24), (8, -24), (2, -m)] := by
      show [(24, (1 : Int) * 24), (8, -1 * 24), (2, -m * 1)] = _; rw [Int.mul_one]; rfl
    rw [e1]; have h3 := sign_known _ _ (knows_83 (-m) (by omega))
    have e2 : (if -38 ≤ -m then (1 : Int) else -1) = if m ≤ 38 then 1 else -1 := by
      by_cases h : m ≤ 38
      · rw [if_pos h, if_pos (by omega)]
      · rw [if_neg h, if_neg (by omega)]
    rw [e2] at h3; exact h3
  · have h1 := h.1; unfold FloorRes at h1; rw [if_neg (by decide)] at h1; obtain ⟨m, _, _, hp, hn, rfl⟩ := h1
    have e38 : m = 38 := by
      have a1 : m ≤ 38 := by
        by_cases h : m ≤ 38
        · exact h
        · simp [h] at hp
      have a2 : ¬ m + 1 ≤ 38 := by
        intro h; simp [h] at hn
      omega
    rw [e38]; exact ⟨_, rfl⟩
set_option maxHeartbeats 1600000 in
set_option maxRecDepth 100000 in
theorem semi83_any (w : World) : Calls Tryz.prog 25 #[.agg #[.int .i64 8, .int .i64 3]] w fun e w' => e = .returned (.int .i64 19) ∧ Below w.heap.size w w' := by
  have X0 := Blk.new w 23 #[.int .i64 8, .int .i64 3]; have hu := (Below.refl w.heap.size w).alloc (Nat.le_refl _) (.cells #[.int .i64 8, .int .i64 3] 23)
  have hT : Sl (TR ((w.alloc (.cells #[.int .i64 8, .int .i64 3] 23)).alloc (.cells #[.int .i64 24, .int .i64 1, .int .i64 8, .int .i64 (-1)] 69)) (some ⟨w.heap.size + 1, 0, none⟩) 2 [(24, 1), (8, -1)]) := ⟨by
    refine ⟨rfl, rfl, fun _ => ⟨_, rfl, by simp, fun j u hj => ?_⟩⟩; have hb := Blk.new (w.alloc (.cells #[.int .i64 8, .int .i64 3] 23)) 69 #[.int .i64 24, .int .i64 1, .int .i64 8, .int .i64 (-1)]; rw [show (w.alloc (.cells #[.int .i64 8, .int .i64 3] 23)).heap.size = w.heap.size + 1 by simp] at hb
    have e : (⟨w.heap.size + 1, 0, none⟩ : Addr).add j = ⟨w.heap.size + 1, j, none⟩ := by
      unfold Addr.add
      by_cases h : j = 0
      · subst h; simp
      · simp [h]
    rw [e, hb.cell]
    simpa using hj⟩
  have HU : Sl _ := ⟨hu.alloc (by simp) (.cells #[.int .i64 24, .int .i64 1, .int .i64 8, .int .i64 (-1)] 69)⟩; have HF : Sl _ := ⟨floor_83 _ 2 _ hT.out⟩; clear hu X0; go_enter Tryz.func25, Tryz.ntmps25; go_wp2_with fail; refine HF.out.mono ?_; rintro e w1 ⟨⟨b, rfl⟩, hb⟩; go_wp2_with fail; go_ret; exact ⟨rfl, HU.out.trans (hb.mono HU.out.size)⟩
theorem Semi83_any (w : World) : Calls Tryz.prog 8 #[.agg #[.int .i64 8, .int .i64 3]] w fun e w' => e = .returned (.tuple #[.int .i64 19, .int .i64 0]) ∧ Below w.heap.size w w' := by
  have X0 := Blk.new w 23 #[.int .i64 8, .int .i64 3]; have hu := (Below.refl w.heap.size w).alloc (Nat.le_refl _) (.cells #[.int .i64 8, .int .i64 3] 23); go_enter Tryz.func8, Tryz.ntmps8; go_wp2_with fail; generalize w.alloc (.cells #[.int .i64 8, .int .i64 3] 23) = w0 at *
  refine (feet83_any w0).mono ?_; rintro e w1 ⟨⟨s, rfl⟩, hb⟩; have X1 := X0.below hb X0.lt; have x0 := X1.cell 0; have x1 := X1.cell 1; simp at x0 x1; go_wp2_with fail; refine (semi83_any w1).mono ?_; rintro e w2 ⟨rfl, hb2⟩; go_wp2_with fail; go_ret2; have h1 := hu.trans (hb.mono hu.size); exact ⟨rfl, h1.trans (hb2.mono h1.size)⟩
end Go.Proofs.YtafadpaljanghaaGreatDoor
namespace Go.Proofs.YtafadpaljanghaaGreatDoor
set_option linter.unusedSimpArgs false
open Go.RowKit
set_option linter.unusedVariables false
theorem II.lit (w : World) (l : List Int) (t : TypeId) : II (w.alloc (.cells (l.map iv).toArray t)) (some ⟨w.heap.size, 0, none⟩) l.length l := II.of_blk (Blk.new w t _)
set_option maxHeartbeats 6400000 in
set_option maxRecDepth 100000 in
theorem awake11_any (w : World) : Calls Tryz.prog 12 #[] w fun e w' => e = .returned (.bool true) ∧ Below w.heap.size w w' := by
  go_enter Tryz.func12, Tryz.ntmps12; go_wp2_with fail; refine (Example_any w).mono ?_; rintro e w1 ⟨rfl, hM, hb⟩; have HU : Sl (Below w.heap.size w w1) := ⟨hb⟩; have HRO : Sl _ := ⟨Row_any 36 96 _ 3 3 _ 60 w1 hM ⟨by decide, by decide⟩ ⟨by decide, by decide⟩⟩; clear hM hb; go_wp2_with fail; refine HRO.out.mono ?_; rintro e w2 ⟨⟨A, c, he, hii⟩, hb⟩; rw [ex_rerr, ex_rows] at he; rw [ex_rows] at hii; subst he; have HR : Sl (II w2 A 3 [79, 84, 91]) := ⟨hii⟩; replace HU : Sl (Below w.heap.size w w2) := ⟨HU.out.trans (hb.mono HU.out.size)⟩; clear hii hb HRO; go_wp2_with fail; refine (Semi83_any w2).mono ?_; rintro e w3 ⟨rfl, hb⟩; replace HU : Sl (Below w.heap.size w w3) := ⟨HU.out.trans (hb.mono HU.out.size)⟩; replace HR : Sl (II w3 A 3 [79, 84, 91]) := ⟨HR.out.below hb⟩; clear hb; have hl : II (w3.alloc (.cells #[.int .i64 24, .int .i64 31, .int .i64 36] 3)) (some ⟨w3.heap.size, 0, none⟩) 3 [24, 31, 36] := II.lit w3 [24, 31, 36] 3; have hu : Below w3.heap.size w3 (w3.alloc (.cells #[.int .i64 24, .int .i64 31, .int .i64 36] 3)) := (Below.refl _ _).alloc (Nat.le_refl _) _; have HPL : Sl _ := ⟨planEx_any _ 3 _ hl ⟨Nat.le_refl _, by decide⟩⟩; replace HU : Sl (Below w.heap.size w (w3.alloc (.cells #[.int .i64 24, .int .i64 31, .int .i64 36] 3))) := ⟨HU.out.trans (hu.mono HU.out.size)⟩; replace HR : Sl (II (w3.alloc (.cells #[.int .i64 24, .int .i64 31, .int .i64 36] 3)) A 3 [79, 84, 91]) := ⟨HR.out.below hu⟩; clear hl hu; go_wp2_with fail; refine HPL.out.mono ?_; rintro e w4 ⟨⟨g, cap, A1, c1, A2, c2, rfl, hmx⟩, hb⟩; replace HU : Sl (Below w.heap.size w w4) := ⟨HU.out.trans (hb.mono HU.out.size)⟩; replace HR : Sl (II w4 A 3 [79, 84, 91]) := ⟨HR.out.below hb⟩; have hu : Below w4.heap.size w4 (w4.alloc (.cells #[.int .i64 36, .int .i64 96, .slice (some ⟨g, 0, none⟩) 2 cap] 34)) := (Below.refl _ _).alloc (Nat.le_refl _) _; have X5 : Sl _ := ⟨Blk.new w4 34 #[.int .i64 36, .int .i64 96, .slice (some ⟨g, 0, none⟩) 2 cap]⟩; have HMX : Sl _ := ⟨hmx.below hu⟩; replace HR : Sl (II (w4.alloc (.cells #[.int .i64 36, .int .i64 96, .slice (some ⟨g, 0, none⟩) 2 cap] 34)) A 3 [79, 84, 91]) := ⟨HR.out.below hu⟩; replace HU : Sl (Below w.heap.size w (w4.alloc (.cells #[.int .i64 36, .int .i64 96, .slice (some ⟨g, 0, none⟩) 2 cap] 34))) := ⟨HU.out.trans (hu.mono HU.out.size)⟩; clear hmx hb hu HPL; go_wp2_with fail; have s5 : (w4.alloc (.cells #[.int .i64 36, .int .i64 96, .slice (some ⟨g, 0, none⟩) 2 cap] 34)).heap.size = w4.heap.size + 1 := (by simp); generalize w4.alloc (.cells #[.int .i64 36, .int .i64 96, .slice (some ⟨g, 0, none⟩) 2 cap] 34) = w5 at *
  have hl := II.lit w5 [79, 84, 91] 3; rw [s5] at hl; have hu : Below w5.heap.size w5 (w5.alloc (.cells #[.int .i64 79, .int .i64 84, .int .i64 91] 3)) := (Below.refl _ _).alloc (Nat.le_refl _) _; have HSI : Sl _ := ⟨sameInts11_any A (some ⟨w4.heap.size + 1, 0, none⟩) 3 c 3 [79, 84, 91] (w5.alloc (.cells #[.int .i64 79, .int .i64 84, .int .i64 91] 3)) (HR.out.below hu) hl (by decide)⟩; replace HU : Sl (Below w.heap.size w (w5.alloc (.cells #[.int .i64 79, .int .i64 84, .int .i64 91] 3))) := ⟨HU.out.trans (hu.mono HU.out.size)⟩; replace X5 : Sl (Blk (w5.alloc (.cells #[.int .i64 79, .int .i64 84, .int .i64 91] 3)) w4.heap.size _ _) := ⟨X5.out.below hu X5.out.lt⟩; replace HMX : Sl (MX (w5.alloc (.cells #[.int .i64 79, .int .i64 84, .int .i64 91] 3)) (some ⟨g, 0, none⟩) 2 _) := ⟨HMX.out.below hu⟩; clear hl hu s5 HR; refine HSI.out.mono ?_; rintro e w6 ⟨rfl, m, rfl⟩; clear HSI; replace X5 : Sl (Blk ((w5.alloc (.cells #[.int .i64 79, .int .i64 84, .int .i64 91] 3)).drewN m) w4.heap.size _ _) := ⟨X5.out.drewN m⟩; replace HMX : Sl (MX ((w5.alloc (.cells #[.int .i64 79, .int .i64 84, .int .i64 91] 3)).drewN m) (some ⟨g, 0, none⟩) 2 _) := ⟨HMX.out.below (below_drewN (Below.refl _ _) m)⟩; replace HU : Sl (Below w.heap.size w ((w5.alloc (.cells #[.int .i64 79, .int .i64 84, .int .i64 91] 3)).drewN m)) := ⟨below_drewN HU.out m⟩; generalize (w5.alloc (.cells #[.int .i64 79, .int .i64 84, .int .i64 91] 3)).drewN m = w7 at *
  have x2 := X5.out.cell 2; simp at x2; obtain ⟨ad, e, _, y2, y3⟩ := HMX.out.cells (i := 1) rfl; injection e with e
  subst e; have y2' : w7.cell? ⟨g, 2, none⟩ = some (.int .i64 85) := (by simpa [Addr.add] using y2); have y3' : w7.cell? ⟨g, 3, none⟩ = some (.slice A2 3 c2) := (by simpa [Addr.add] using y3); have HII : Sl (II w7 A2 3 [19, 24, 24]) := ⟨HMX.out.rk ⟨85, A2, 3, c2, [19, 24, 24]⟩ (by simp)⟩; have hl := II.lit w7 [19, 24, 24] 3; have hu : Below w7.heap.size w7 (w7.alloc (.cells #[.int .i64 19, .int .i64 24, .int .i64 24] 3)) := (Below.refl _ _).alloc (Nat.le_refl _) _; have HSI : Sl _ := ⟨sameInts11_any A2 (some ⟨w7.heap.size, 0, none⟩) 3 c2 3 [19, 24, 24] (w7.alloc (.cells #[.int .i64 19, .int .i64 24, .int .i64 24] 3)) (HII.out.below hu) hl (by decide)⟩; replace HU : Sl (Below w.heap.size w (w7.alloc (.cells #[.int .i64 19, .int .i64 24, .int .i64 24] 3))) := ⟨HU.out.trans (hu.mono HU.out.size)⟩; clear hl hu HII HMX X5 y2 y3; go_wp2_with fail; refine HSI.out.mono ?_; rintro e w8 ⟨rfl, m2, rfl⟩; go_wp2_with fail; go_ret; exact ⟨rfl, below_drewN HU.out m2⟩
end Go.Proofs.YtafadpaljanghaaGreatDoor
