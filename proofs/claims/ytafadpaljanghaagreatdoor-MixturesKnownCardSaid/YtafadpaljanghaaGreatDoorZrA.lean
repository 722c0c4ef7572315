/- What the rows of the laws of package mixtures need that ask for no table: their list of tables, a world for the witness, the last step. Parts began as the given page's toy and as the guide's post_of_below, which its page bids to copy. -/
import Derived.Test.YtafadpaljanghaaGreatDoorCards
import Derived.Test.YtafadpaljanghaaGreatDoorTie
import Derived.Test.YtafadpaljanghaaGreatDoorBase
import Derived.ProofKit
import Derived.OpenShut
import Derived.Deep.DeepHandedRow
import Derived.Lib.LaidTab
import Derived.Stop.LaidErr
import Derived.ChangeSame
import Derived.ChangeSlices
import Derived.Carry
import Derived.Lay
import Derived.ChangeMaps5
import Derived.Test.YtafadpaljanghaaGreatDoorMyH
import Derived.Deep.Slices
import Derived.Deep.Strs
import Derived.Test.YtafadpaljanghaaGreatDoorMyC
import Derived.Test.YtafadpaljanghaaGreatDoorMyS
import Derived.Test.YtafadpaljanghaaGreatDoorMyU
import Derived.Test.YtafadpaljanghaaGreatDoorHld
import Derived.Maps.Own
import Derived.Maps.OwnOps
import Derived.Maps.Views
import Derived.Deep.RegionHeld3
import Derived.Test.YtafadpaljanghaaGreatDoorMixG
import Derived.Test.YtafadpaljanghaaGreatDoorMixE
import Derived.Laws.MakeOwn
import Derived.Laws.EntriesVeiled
import Derived.Test.YtafadpaljanghaaGreatDoorMixT
import Derived.Test.YtafadpaljanghaaGreatDoorMixQ
import Derived.Deep.RegionWith
import Derived.Test.YtafadpaljanghaaGreatDoorShelB
import Derived.Test.YtafadpaljanghaaGreatDoorMixS
import Derived.Test.YtafadpaljanghaaGreatDoorMyZ
import Derived.Test.YtafadpaljanghaaGreatDoorMyV
import Derived.Test.YtafadpaljanghaaGreatDoorMyL
import Derived.Test.YtafadpaljanghaaGreatDoorMyJ
import Derived.Laws.Strings
namespace Go.Proofs.YtafadpaljanghaaGreatDoor
set_option linter.unusedSimpArgs false
open Go.ChangeShapes Go.WideShapes Go.ChangeAt Go.RowKit
set_option linter.unusedVariables false
section
variable {H : Type} {enc : TypeId × Value → H} {P : Program}
theorem post_of_below {f : Func} {s : ChangeSpec} {apart fresh handsOn again : Bool} {W W' : World} {args : Array Value} {v : Value} {ds gs : List (DataW H)} {before pa pv : List MemPlace}
    (hW : DataW.Whole enc P f.params.toList s.vars apart W args.toList ds gs before)
    (hres : ∀ (b : Nat) (sp : Nat → Bool) (hd : Bool), DataW.TrodAll enc P W' b sp hd f.resultTypes.toList (v.resultList f.resultTypes.size) (s.fn H (ds ++ gs)).results [])
    (hargs : ∀ sp : Nat → Bool, (∀ p ∈ before, sp p.block = true) → DataW.TrodAll enc P W' 0 sp true f.params.toList args.toList (s.fn H (ds ++ gs)).args pa)
    (hvars : ∀ sp : Nat → Bool, (∀ p ∈ before, sp p.block = true) → DataW.TrodVars enc P W' sp s.vars (s.fn H (ds ++ gs)).vars pv)
    (hps : before = pa ++ pv) (hb : Below W.heap.size W W')
    (hok : ∀ (j : Nat) (t : TypeId) (r : Value), f.resultTypes[j]? = some t → (v.resultList f.resultTypes.size)[j]? = some r → Value.okWide P W' .any 0 t r) :
    s.post enc P f apart fresh handsOn again W args v W' := by
  have hlt : ∀ p ∈ before, p.block < W.heap.size := fun p hp => hW.lt p hp
  have hold : ∀ p ∈ before, (fun b => decide (b < W.heap.size)) p.block = true := fun p hp => by simpa using hlt p hp
  refine ⟨ds, gs, before, [], pa, pv, hW, hres _ _ _, hargs _ hold, hvars _ hold, World.keptBut_mono (fun p hp => ⟨hp, ?_⟩) (hb.frame (· ∈ before)), fun _ => ?_⟩
  · rw [hps, List.mem_append] at hp; exact Or.inr hp
  · obtain ⟨_, _, _, _, _, hz, hn⟩ := hW; refine ⟨hok, _, _, ([] ++ pa) ++ pv, ⟨[] ++ pa, pv, trodAll_append (hargs _ (fun _ _ => rfl)) (hres _ _ _), hvars _ (fun _ _ => rfl), rfl, ?_, ?_⟩, ?_⟩
    · intro b off hp; have hin : MemPlace.cell b off ∈ before := (by rw [hps]; simpa using hp); rw [hb.frozen (hlt _ hin)]; exact hz b off hin
    · intro ha; have := hn ha; rw [hps] at this; simpa using this
    · intro p hp _; rw [hps]; simpa using hp
end
theorem ownK : ownKnob Tryz.prog.godebug = none := by kernel_rfl
def laidLM : List (String × DataW Unit) := [("math/bits.deBruijn32tab", Rows.laid_math_bits_deBruijn32tab), ("math/bits.deBruijn64tab", Rows.laid_math_bits_deBruijn64tab), ("internal/strconv.uint64pow10", Rows.laid_internal_strconv_uint64pow10)]
noncomputable def laidWorldM (os : Os) : World := World.laidAll Tryz.prog os laidLM
theorem laid_metM (os : Os) (args : Array Value) : laidMet Tryz.prog laidLM ((laidWorldM os).forCall (fun _ _ => 0) ⟨#[], args, []⟩).memory :=
  laidMet_laidAll args (by kernel_rfl) (by kernel_rfl)
end Go.Proofs.YtafadpaljanghaaGreatDoor
namespace Go.Proofs.YtafadpaljanghaaGreatDoor
open Go.ChangeShapes Go.WideShapes Go.ChangeAt Go.RowKit Go.Deep
set_option linter.unusedVariables false
set_option linter.unusedSimpArgs false
end Go.Proofs.YtafadpaljanghaaGreatDoor
namespace Go.Proofs.YtafadpaljanghaaGreatDoor
open Go.ChangeShapes Go.WideShapes Go.ChangeAt Go.RowKit Go.Deep
set_option linter.unusedVariables false
set_option linter.unusedSimpArgs false
end Go.Proofs.YtafadpaljanghaaGreatDoor
namespace Go.Proofs.YtafadpaljanghaaGreatDoor
set_option linter.unusedSimpArgs false
set_option linter.unusedVariables false
abbrev Rn := Int × Int × Int
def rst (out : List Rn) (f t s : Int) : List Rn :=
  match out.getLast? with
  | some (f', t', s') => if t' = f - 1 ∧ s' = s then out.dropLast ++ [(f', t, s)] else out ++ [(f, t, s)]
  | none => [(f, t, s)]
theorem rst_nil (f t s : Int) : rst [] f t s = [(f, t, s)] := rfl
theorem rst_snoc (out : List Rn) (f' t' s' f t s : Int) : rst (out ++ [(f', t', s')]) f t s = if t' = f - 1 ∧ s' = s then out ++ [(f', t, s)] else out ++ [(f', t', s')] ++ [(f, t, s)] := by
  unfold rst; rw [List.getLast?_append]; simp
theorem rst_more (out : List Rn) (f t s : Int) : rst (rst out f t s) (t + 1) (t + 1) s = rst out f (t + 1) s := by
  rcases List.eq_nil_or_concat out with rfl | ⟨o, x, rfl⟩
  · rw [rst_nil, rst_nil, show ([(f, t, s)] : List Rn) = [] ++ [(f, t, s)] from rfl, rst_snoc, if_pos ⟨by omega, rfl⟩]; rfl
  · obtain ⟨f', t', s'⟩ := x; rw [List.concat_eq_append, rst_snoc, rst_snoc]
    split
    · rename_i h; rw [rst_snoc, if_pos ⟨by omega, rfl⟩]
    · rw [rst_snoc, if_pos ⟨by omega, rfl⟩]
def Mx.sh (x : Mx) (p : Nat) (own : Int) (i : Nat) : Int := gt (x.rk i) p - own
def Mx.runs (x : Mx) (p : Nat) (own : Int) : Nat → List Rn
  | 0 => []
  | i+1 => if p < (x.rk i).length then rst (x.runs p own i) (x.fr i) (x.last i) (x.sh p own i) else x.runs p own i
def Mx.kruns (x : Mx) (p : Nat) (own : Int) : Nat → List Rn
  | 0 => []
  | k+1 => if p < (x.rk (x.at (x.key k) x.n)).length then rst (x.kruns p own k) (x.key k) (x.key k) (x.sh p own (x.at (x.key k) x.n)) else x.kruns p own k
def Mx.ahead (x : Mx) (i : Nat) : Nat := (x.fr i - x.a).toNat
theorem Mx.Ord.runs_in {x : Mx} (h : x.Ord) (p : Nat) (own : Int) {i : Nat} (hi : i < x.n) (h0 : x.kruns p own (x.ahead i) = x.runs p own i) :
    ∀ j : Nat, x.fr i + (j : Int) ≤ x.last i → x.kruns p own (x.ahead i + j + 1) = if p < (x.rk i).length then rst (x.runs p own i) (x.fr i) (x.fr i + (j : Int)) (x.sh p own i) else x.runs p own i := by
  have hf : x.a ≤ x.fr i := (by rw [← h.first]; exact h.mono (Nat.zero_le i) hi); have hk : ∀ j : Nat, x.key (x.ahead i + j) = x.fr i + (j : Int) := fun j => by unfold Mx.key Mx.ahead; omega
  intro j
  induction j with
  | zero =>
    intro hj; have h00 : x.key (x.ahead i) = x.fr i := (by unfold Mx.key Mx.ahead; omega); have ha := h.at_of hi (key := x.key (x.ahead i)) (by rw [h00]; exact Int.le_refl _) (by rw [h00]; exact h.last_ge hi); have hz : x.fr i + ((0 : Nat) : Int) = x.fr i := (by omega); rw [Nat.add_zero, Mx.kruns, ha, h00, hz, h0]
  | succ j ih =>
    intro hj; have ha := h.at_of hi (key := x.key (x.ahead i + (j + 1))) (by rw [hk (j + 1)]; omega) (by rw [hk (j + 1)]; exact hj); rw [Mx.kruns, ha, hk (j + 1), show x.ahead i + (j + 1) = x.ahead i + j + 1 by omega, ih (by omega)]
    split
    · rw [show x.fr i + ((j + 1 : Nat) : Int) = x.fr i + (j : Int) + 1 by omega]; exact rst_more _ _ _ _
    · rfl
theorem Mx.Ord.runs_keys {x : Mx} (h : x.Ord) (p : Nat) (own : Int) : ∀ i, i < x.n → x.kruns p own (x.ahead i) = x.runs p own i
  | 0, hi => by
    have : x.ahead 0 = 0 := (by unfold Mx.ahead; rw [h.first]; omega); rw [this]; rfl
  | i+1, hi => by
    have ih := h.runs_keys p own i (by omega); have hl : x.last i = x.fr (i + 1) - 1 := (by unfold Mx.last; rw [if_pos hi]); have hu := h.up i hi; have hf : x.a ≤ x.fr i := (by rw [← h.first]; exact h.mono (Nat.zero_le i) (by omega)); have hr := h.runs_in p own (show i < x.n by omega) ih (x.fr (i + 1) - 1 - x.fr i).toNat (by omega); have e : x.ahead i + (x.fr (i + 1) - 1 - x.fr i).toNat + 1 = x.ahead (i + 1) := (by unfold Mx.ahead; omega); rw [e] at hr; rw [hr, Mx.runs, hl]; rw [show x.fr i + ((x.fr (i + 1) - 1 - x.fr i).toNat : Int) = x.fr (i + 1) - 1 by omega]
theorem Mx.Ord.runs_all {x : Mx} (h : x.Ord) (p : Nat) (own : Int) : x.kruns p own x.keys = x.runs p own x.n := by
  obtain ⟨i, hi⟩ : ∃ i, x.n = i + 1 := ⟨x.n - 1, by have := h.pos; omega⟩; have ih := h.runs_keys p own i (by omega); have hl : x.last i = x.b := (by unfold Mx.last; rw [if_neg (by omega)]); have hle := h.le i (by omega); have hf : x.a ≤ x.fr i := (by rw [← h.first]; exact h.mono (Nat.zero_le i) (by omega)); have hr := h.runs_in p own (show i < x.n by omega) ih (x.b - x.fr i).toNat (by omega); have e : x.ahead i + (x.b - x.fr i).toNat + 1 = x.keys := (by unfold Mx.ahead Mx.keys; omega); rw [e] at hr; rw [hr, hi, Mx.runs, hl]; rw [show x.fr i + ((x.b - x.fr i).toNat : Int) = x.b by omega]
end Go.Proofs.YtafadpaljanghaaGreatDoor
namespace Go.Proofs.YtafadpaljanghaaGreatDoor
set_option linter.unusedSimpArgs false
set_option linter.unusedVariables false
def cov (key : Int) : List Rn → List Int
  | [] => []
  | r :: l => if r.1 ≤ key ∧ key ≤ r.2.1 then r.2.2 :: cov key l else cov key l
theorem cov_append (key : Int) : ∀ l m : List Rn, cov key (l ++ m) = cov key l ++ cov key m
  | [], m => rfl
  | r :: l, m => by
    rw [List.cons_append, cov, cov, cov_append key l m]
    split <;> rfl
theorem cov_one (key f t s : Int) : cov key [(f, t, s)] = if f ≤ key ∧ key ≤ t then [s] else [] := rfl
theorem cov_none {key : Int} : ∀ {l : List Rn}, (∀ r ∈ l, r.2.1 < key) → cov key l = []
  | [], _ => rfl
  | r :: l, h => by
    have := h r List.mem_cons_self; rw [cov, if_neg (by omega), cov_none fun q hq => h q (List.mem_cons_of_mem _ hq)]
def Blw (key : Int) (l : List Rn) : Prop := ∀ r ∈ l, r.1 ≤ r.2.1 ∧ r.2.1 < key
theorem Blw.rst {key s : Int} {l : List Rn} (h : Blw key l) : Blw (key + 1) (rst l key key s) := by
  rcases List.eq_nil_or_concat l with rfl | ⟨o, x, rfl⟩
  · rw [rst_nil]; intro r hr; simp at hr; subst hr; exact ⟨Int.le_refl _, by show key < key + 1; omega⟩
  · obtain ⟨f', t', s'⟩ := x; rw [List.concat_eq_append] at h ⊢; have h1 := h (f', t', s') (by simp); simp only [] at h1; rw [rst_snoc]; intro r hr
    split at hr
    · rename_i hc; rcases List.mem_append.1 hr with hr | hr
      · have := h r (List.mem_append_left _ hr); omega
      · simp at hr; subst hr; show f' ≤ key ∧ key < key + 1; omega
    · rcases List.mem_append.1 hr with hr | hr
      · have := h r hr; omega
      · simp at hr; subst hr; exact ⟨Int.le_refl _, by show key < key + 1; omega⟩
theorem cov_rst {key s : Int} {l : List Rn} (h : Blw key l) (q : Int) : cov q (rst l key key s) = if q = key then [s] else cov q l := by
  have hnone : ∀ {l : List Rn}, Blw key l → cov key l = [] := fun hl => cov_none fun r hr => (hl r hr).2
  rcases List.eq_nil_or_concat l with rfl | ⟨o, x, rfl⟩
  · rw [rst_nil, cov_one]
    by_cases hq : q = key
    · rw [if_pos hq, if_pos (by omega)]
    · rw [if_neg hq, if_neg (by omega)]; rfl
  · obtain ⟨f', t', s'⟩ := x; rw [List.concat_eq_append] at h ⊢; have h1 := h (f', t', s') (by simp); simp only [] at h1; have ho : Blw key o := fun r hr => h r (List.mem_append_left _ hr)
    rw [rst_snoc]
    split
    · rename_i hc; rw [cov_append, cov_append, cov_one, cov_one]
      by_cases hq : q = key
      · subst hq; rw [if_pos rfl, hnone ho, if_pos (by omega)]; rfl
      · rw [if_neg hq]; congr 1
        by_cases h2 : f' ≤ q ∧ q ≤ t'
        · rw [if_pos h2, if_pos (by omega), hc.2]
        · rw [if_neg h2, if_neg (by omega)]
    · rw [cov_append, cov_one]
      by_cases hq : q = key
      · subst hq; rw [if_pos rfl, hnone h, if_pos (by omega)]; rfl
      · rw [if_neg hq, if_neg (by omega), List.append_nil]
theorem Blw.more {key : Int} {l : List Rn} (h : Blw key l) : Blw (key + 1) l := fun r hr => by have := h r hr; omega
theorem Mx.kruns_blw (x : Mx) (p : Nat) (own : Int) : ∀ k, Blw (x.key k) (x.kruns p own k)
  | 0 => fun r hr => by cases hr
  | k+1 => by
    have e : x.key (k + 1) = x.key k + 1 := (by unfold Mx.key; omega); rw [e, Mx.kruns]
    split
    · exact (x.kruns_blw p own k).rst
    · exact (x.kruns_blw p own k).more
theorem Mx.kruns_cov (x : Mx) (p : Nat) (own : Int) : ∀ k j, j < k → cov (x.key j) (x.kruns p own k) = if p < (x.rk (x.at (x.key j) x.n)).length then [x.sh p own (x.at (x.key j) x.n)] else []
  | 0, j, h => absurd h (Nat.not_lt_zero _)
  | k+1, j, h => by
    rw [Mx.kruns]; rcases Nat.lt_or_ge j k with h1 | h1
    · have ih := x.kruns_cov p own k j h1; have hne : x.key j ≠ x.key k := (by unfold Mx.key; omega)
      split
      · rw [cov_rst (x.kruns_blw p own k), if_neg hne, ih]
      · exact ih
    · obtain rfl : j = k := (by omega)
      split
      · rw [cov_rst (x.kruns_blw p own j), if_pos rfl]
      · exact cov_none fun r hr => (x.kruns_blw p own j r hr).2
theorem Mx.Ord.runs_cov {x : Mx} (h : x.Ord) (p : Nat) (own : Int) {j : Nat} (hj : j < x.keys) : cov (x.key j) (x.runs p own x.n) = if p < (x.rk (x.at (x.key j) x.n)).length then [x.sh p own (x.at (x.key j) x.n)] else [] := by
  rw [← h.runs_all]; exact x.kruns_cov p own _ j hj
def Mx.snds (x : Mx) (own : Nat → Int) (j : Nat) : Nat → List Int
  | 0 => []
  | p+1 => x.snds own j p ++ (cov (x.key j) (x.runs p (own p) x.n)).map fun s => x.key j + s + own p
theorem take_snoc {l : List Int} {p : Nat} (h : p < l.length) : l.take (p + 1) = l.take p ++ [gt l p] := by
  rw [List.take_add_one, gt_at h]; rfl
theorem Mx.Ord.snds_row {x : Mx} (h : x.Ord) (own : Nat → Int) {j : Nat} (hj : j < x.keys) : ∀ m, x.snds own j m = (x.row (x.key j)).take m
  | 0 => by rw [Mx.snds, List.take_zero]
  | p+1 => by
    rw [Mx.snds, h.snds_row own hj p, h.runs_cov p (own p) hj]
    by_cases hp : p < (x.rk (x.at (x.key j) x.n)).length
    · rw [if_pos hp, take_snoc (by rw [x.row_len]; exact hp)]; congr 1
      have e : gt (x.row (x.key j)) p = x.key j + gt (x.rk (x.at (x.key j) x.n)) p := by
        unfold gt; rw [x.row_at _ hp]; rfl
      rw [e]; show [x.key j + x.sh p (own p) (x.at (x.key j) x.n) + own p] = _; unfold Mx.sh; congr 1; omega
    · rw [if_neg hp, List.map_nil, List.append_nil]; have hl : (x.row (x.key j)).length ≤ p := (by rw [x.row_len]; omega); rw [List.take_of_length_le hl, List.take_of_length_le (by omega)]
theorem Mx.Ord.snds_all {x : Mx} (h : x.Ord) (own : Nat → Int) {j m : Nat} (hj : j < x.keys) (hm : (x.rk (x.at (x.key j) x.n)).length ≤ m) : x.snds own j m = x.row (x.key j) := by
  rw [h.snds_row own hj m]; exact List.take_of_length_le (by rw [x.row_len]; exact hm)
end Go.Proofs.YtafadpaljanghaaGreatDoor
namespace Go.Proofs.YtafadpaljanghaaGreatDoor
set_option linter.unusedSimpArgs false
set_option linter.unusedVariables false
structure RkV where
  nm : ByteArray
  kind : Int
  num : Int
  den : Int
  low : Int
  cnt : Int
def RkV.cells (r : RkV) : List Value := [.string r.nm, .int .i64 r.kind, .int .i64 r.num, .int .i64 r.den, .int .i64 r.low, .int .i64 r.cnt]
def rk0 : RkV := ⟨⟨#[]⟩, 0, 0, 0, 0, 0⟩
def RkV.bad (r : RkV) : Bool := decide (r.low < 0) || decide (127 < r.low) || decide (r.cnt < 1) || decide (97 < r.cnt) || decide (128 < r.low + r.cnt)
def RkV.has (r : RkV) (n : Int) : Bool := !r.bad && (decide (r.low ≤ n) && decide (n - r.low < r.cnt))
def RkV.hasP (r : RkV) (f t : Int) : Bool := !r.bad && (decide (r.low ≤ f) && decide (t < r.low + r.cnt))
theorem RkV.hasP_has {r : RkV} {f t : Int} (h : f ≤ t) : r.hasP f t = (r.has f && r.has t) := by
  unfold RkV.hasP RkV.has; rw [Bool.eq_iff_iff]; simp only [Bool.and_eq_true, decide_eq_true_eq]; constructor
  · rintro ⟨h1, h2, h3⟩; exact ⟨⟨h1, by omega, by omega⟩, h1, by omega, by omega⟩
  · rintro ⟨⟨h1, h2, h3⟩, _, h4, h5⟩; exact ⟨h1, by omega, by omega⟩
def rnE (r : RkV) (x : Rn) : Int := if x.2.2 < -96 ∨ 96 < x.2.2 then 7 else if (r.has (x.1 + x.2.2) && r.has (x.2.1 + x.2.2)) = true then 0 else 4
def rnsE (r : RkV) : List Rn → Int
  | [] => 0
  | x :: l => if rnE r x ≠ 0 then rnE r x else rnsE r l
theorem rnsE_zero {r : RkV} : ∀ {l : List Rn}, rnsE r l = 0 ↔ ∀ x ∈ l, rnE r x = 0
  | [] => by simp [rnsE]
  | y :: l => by
    rw [rnsE]
    by_cases h : rnE r y ≠ 0
    · rw [if_pos h]; exact ⟨fun h2 => absurd h2 h, fun h2 => absurd (h2 y List.mem_cons_self) h⟩
    · rw [if_neg h, rnsE_zero]; refine ⟨fun h2 x hx => ?_, fun h2 x hx => h2 x (List.mem_cons_of_mem _ hx)⟩; rcases List.mem_cons.1 hx with rfl | hx
      · exact Classical.not_not.1 h
      · exact h2 x hx
theorem rnsE_hit {r : RkV} {l : List Rn} {i : Nat} {x : Rn} (h0 : ∀ j y, j < i → l[j]? = some y → rnE r y = 0) (hx : l[i]? = some x) (hne : rnE r x ≠ 0) : rnsE r l = rnE r x := by
  induction l generalizing i with
  | nil => cases hx
  | cons y l ih =>
    rcases i with _ | i
    · injection hx with hx
      subst hx; rw [rnsE, if_pos hne]
    · have h1 := h0 0 y (Nat.succ_pos i) rfl; rw [rnsE, if_neg (by rw [h1]; decide)]; exact ih (fun j z hj hz => h0 (j + 1) z (by omega) hz) hx
def ptsE (rk : Nat → RkV) (ru : Nat → List Rn) : Nat → Int
  | 0 => 0
  | p+1 => if ptsE rk ru p ≠ 0 then ptsE rk ru p else rnsE (rk p) (ru p)
theorem ptsE_hit {rk : Nat → RkV} {ru : Nat → List Rn} {p : Nat} (h0 : ptsE rk ru p = 0) (h1 : rnsE (rk p) (ru p) ≠ 0) : ∀ {m : Nat}, p < m → ptsE rk ru m = rnsE (rk p) (ru p)
  | 0, h => absurd h (Nat.not_lt_zero _)
  | m+1, h => by
    rw [ptsE]; rcases Nat.lt_or_ge p m with h2 | h2
    · rw [ptsE_hit h0 h1 h2, if_pos h1]
    · obtain rfl : p = m := (by omega); rw [h0, if_neg (by decide)]
abbrev PtV := Int × Int × Int × Int
def ptC (p : PtV) : List Value := [.int .i64 p.1, .int .i64 p.2.1, .int .i64 p.2.2.1, .int .i64 p.2.2.2]
def ptOf (k : Int) (x : Rn) : PtV := (k, x.2.2, x.1, x.2.1)
def pts (us : List Int) (ru : Nat → List Rn) : Nat → List PtV
  | 0 => []
  | p+1 => pts us ru p ++ (ru p).map (ptOf (gt us p))
def Mx.lng (x : Mx) : Nat → Nat
  | 0 => 0
  | i+1 => max (x.lng i) (x.rk i).length
theorem Mx.lng_le {x : Mx} {m : Nat} : ∀ {i : Nat}, (∀ j, j < i → (x.rk j).length ≤ m) → x.lng i ≤ m
  | 0, _ => Nat.zero_le _
  | i+1, h => by
    have h1 := Mx.lng_le (x := x) (i := i) (fun j hj => h j (by omega)); have h2 := h i (Nat.lt_succ_self i); show max (x.lng i) (x.rk i).length ≤ m; omega
theorem Mx.le_lng {x : Mx} : ∀ {i j : Nat}, j < i → (x.rk j).length ≤ x.lng i
  | 0, j, h => absurd h (Nat.not_lt_zero _)
  | i+1, j, h => by
    show _ ≤ max (x.lng i) (x.rk i).length; rcases Nat.lt_or_ge j i with h1 | h1
    · have := Mx.le_lng (x := x) (i := i) h1; omega
    · obtain rfl : j = i := (by omega); omega
theorem rst_len (out : List Rn) (f t s : Int) : (rst out f t s).length ≤ out.length + 1 := by
  rcases List.eq_nil_or_concat out with rfl | ⟨o, x, rfl⟩
  · rw [rst_nil]; simp
  · obtain ⟨f', t', s'⟩ := x; rw [List.concat_eq_append, rst_snoc]
    split <;> simp
theorem Mx.runs_len (x : Mx) (p : Nat) (own : Int) : ∀ i, (x.runs p own i).length ≤ i
  | 0 => Nat.le_refl _
  | i+1 => by
    rw [Mx.runs]; have h := x.runs_len p own i
    split
    · have := rst_len (x.runs p own i) (x.fr i) (x.last i) (x.sh p own i); omega
    · omega
end Go.Proofs.YtafadpaljanghaaGreatDoor
namespace Go.Proofs.YtafadpaljanghaaGreatDoor
set_option linter.unusedSimpArgs false
open Go.RowKit
set_option linter.unusedVariables false
structure EachInv (g : Nat) (a b : Int) (A : Option Addr) (n c : Nat) (L : List Bk) (I : Nat → World → Prop) : Prop where
  blk : ∀ k W, I k W → Blk W g 34 #[.int .i64 a, .int .i64 b, .slice A n c] ∧ MXA W A n c L
  keep : ∀ k W W', I k W → Below W.heap.size W W' → I k W'
set_option maxHeartbeats 3200000 in
set_option maxRecDepth 100000 in
theorem eachD_any (g gc : Nat) (a b : Int) (A : Option Addr) (n c : Nat) (L : List Bk) (I : Nat → World → Prop) (w : World) (hF : (mxO a b L).Fine) (hI : EachInv g a b A n c L I) (h0 : I 0 w)
    (hstep : ∀ (k : Nat) (q : Bk) (W : World), k < (mxO a b L).keys → L[(mxO a b L).at ((mxO a b L).key k) (mxO a b L).n]? = some q → I k W → Calls Tryz.prog 52 #[.int .i64 ((mxO a b L).key k), .slice q.A q.n q.c, .pointer (some ⟨gc, 0, none⟩)] W fun e w' => e = .returned (.tuple #[]) ∧ I (k + 1) w' ∧ ∀ g5 cs, Blk W g5 59 cs → Blk w' g5 59 cs) :
    Calls Tryz.prog 51 #[.pointer (some ⟨g, 0, none⟩), .func (.func 52) #[] #[.pointer (some ⟨gc, 0, none⟩)]] w fun e w' => e = .returned (.tuple #[]) ∧ I (mxO a b L).keys w' := by
  have hrun : ∀ (args : Array Value) (w : World), (callFunc 52 args).run Tryz.prog w = .ok (.enter 52 args) w := fun a w => by go_simp
  have HI : Sl _ := ⟨hI⟩; have HST : Sl _ := ⟨hstep⟩; have HIW : Sl _ := ⟨h0⟩; have HF : Sl _ := ⟨hF⟩; have HL : Sl (L.length = n) := ⟨(hI.blk 0 w h0).2.mx.len⟩; have HN : Sl (n ≤ 12 ∧ 0 < n) := ⟨by have h1 := hF.n1; have h2 := hF.ord.pos; rw [mxO_n, HL.out] at h1 h2; exact ⟨h1, h2⟩⟩; clear hI hstep h0 hF; have c2 := (HI.out.blk 0 w HIW.out).1.cell 2; simp at c2; go_enter Tryz.func51, Tryz.ntmps51; go_wp2_with fail; clear c2
  go_loopw [4, 5, 6, 12] (fun s4 s5 s6 s12 wr => ∃ (i : Nat) (v4 v5 v6 : Value), i ≤ n ∧ s12 = .int .i64 i ∧ s4 = v4 ∧ s5 = v5 ∧ s6 = v6 ∧ Sl (I (if i < n then (mxO a b L).ahead i else (mxO a b L).keys) wr)) (fun _ _ _ s12 _ => n - (RowKit.intOf s12).toNat)
  case atStart => exact ⟨0, _, _, _, Nat.zero_le _, rfl, rfl, rfl, rfl, ⟨by
    rw [if_pos HN.out.2]; have : (mxO a b L).ahead 0 = 0 := (by unfold Mx.ahead; rw [HF.out.ord.first]; omega)
    rw [this]; exact HIW.out⟩⟩
  case round =>
    clear HIW; obtain ⟨i, v4, v5, v6, hi, rfl, rfl, rfl, rfl, HK⟩ := hrel
    by_cases hin : i < n
    · have hix : i < (mxO a b L).n := (by rw [mxO_n, HL.out]; exact hin); obtain ⟨bk, hbk⟩ : ∃ bk, L[i]? = some bk := ⟨_, List.getElem?_eq_getElem (by rw [HL.out]; exact hin)⟩; have HB0 : Sl _ := ⟨HI.out.blk _ _ HK.out⟩; obtain ⟨ad, rfl, hab, e1, e2⟩ := HB0.out.2.mx.cells2 hbk; have hk0 := HK.out; rw [if_pos hin] at hk0; have HK0 : Sl (I ((mxO a b L).ahead i) wr) := ⟨hk0⟩; have HBK : Sl _ := ⟨hbk⟩; have HFR : Sl ((mxO a b L).fr i = bk.fr) := ⟨(mxO_at hbk).1⟩; have hfb := HF.out.fr_bd hix; rw [HFR.out] at hfb; have hlb := HF.out.last_bd hix; have hlg := HF.out.ord.last_ge hix; rw [HFR.out] at hlg; obtain ⟨la, hla⟩ : ∃ la, (mxO a b L).last i = la := ⟨_, rfl⟩; rw [hla] at hlb hlg; have HLA : Sl _ := ⟨hla⟩; have HAF : Sl (a ≤ bk.fr) := ⟨by rw [← HFR.out]; have := HF.out.ord.mono (Nat.zero_le i) hix; rw [HF.out.ord.first] at this; exact this⟩; clear hbk hk0 hla HK; obtain ⟨fr, BA, bn, bc, bl⟩ := bk; simp only [] at e1 e2 hfb hlg HAF HFR; have HBW : Sl (Below wr.heap.size wr (wr.alloc (.cells #[.int .i64 fr, .slice BA bn bc] 59))) := ⟨(Below.refl _ _).alloc (Nat.le_refl _) _⟩; have XN : Sl (Blk (wr.alloc (.cells #[.int .i64 fr, .slice BA bn bc] 59)) wr.heap.size 59 #[.int .i64 fr, .slice BA bn bc]) := ⟨Blk.new _ _ _⟩; have hlt : (i : Int) < (n : Int) := (by omega); have hn12 := HN.out.1; go_wp2_with fail; clear e1 e2 hab; have HKQ : Sl (I ((mxO a b L).ahead i) (wr.alloc (.cells #[.int .i64 fr, .slice BA bn bc] 59))) := ⟨HI.out.keep _ _ _ HK0.out HBW.out⟩; generalize wr.alloc (.cells #[.int .i64 fr, .slice BA bn bc] 59) = wq at *
      obtain ⟨g5, hg5⟩ : ∃ g5, wr.heap.size = g5 := ⟨_, rfl⟩; rw [hg5] at XN; rw [hg5]; clear HK0 HB0 HBW hg5; have x0 := XN.out.cell 0; simp at x0; go_wp2_with fail; have HLAF : Sl (la = if i + 1 < n then (mxO a b L).fr (i + 1) - 1 else b) := ⟨by rw [← HLA.out]; unfold Mx.last; rw [mxO_n, HL.out]; rfl⟩
      go_loopw [6] (fun s6 wr => ∃ (j : Nat), fr + (j : Int) ≤ la + 1 ∧ s6 = .int .i64 (fr + (j : Int)) ∧ Sl (I ((mxO a b L).ahead i + j) wr ∧ Blk wr g5 59 #[.int .i64 fr, .slice BA bn bc])) (fun s6 _ => (la + 1 - RowKit.intOf s6).toNat)
      case atStart => exact ⟨0, by omega, by go_num, ⟨HKQ.out, XN.out⟩⟩
      case round =>
        clear HKQ XN; obtain ⟨j, hj, rfl, HJ⟩ := hrel; have HB1 : Sl _ := ⟨HI.out.blk _ _ HJ.out.1⟩; have HCL : Sl _ := ⟨last_any g a b (some ad) n c L i wr HB1.out.1 HB1.out.2 hin (by omega) (by rw [HLA.out]; exact ⟨by omega, by omega⟩)⟩; have hca := HCL.out; rw [HLA.out] at hca; replace HCL : Sl _ := ⟨hca⟩; clear hca; have x1 := HJ.out.2.cell 1; simp at x1; obtain ⟨key, hk⟩ : ∃ key, fr + (j : Int) = key := ⟨_, rfl⟩; have HKY : Sl _ := ⟨hk⟩; rw [hk]; rw [hk] at hj; have hkb : 0 ≤ key ∧ key ≤ 128 := (by omega); clear hk
        by_cases hkl : key ≤ la
        · have hkd : decide (key ≤ la) = true := decide_eq_true hkl
          have hkey : (mxO a b L).key ((mxO a b L).ahead i + j) = key := by
            have hA : (mxO a b L).a = a := rfl; unfold Mx.key Mx.ahead; rw [hA, HFR.out]; have := HAF.out; have := HKY.out; omega
          have hat : (mxO a b L).at key (mxO a b L).n = i := HF.out.ord.at_of hix (by rw [HFR.out]; have := HKY.out; omega) (by rw [HLA.out]; exact hkl)
          have hklt : (mxO a b L).ahead i + j < (mxO a b L).keys := by
            have hA : (mxO a b L).a = a := rfl; have hB : (mxO a b L).b = b := rfl; have hle := HF.out.ord.last_le hix; rw [HLA.out, hB] at hle; unfold Mx.keys Mx.ahead; rw [hA, hB, HFR.out]; have := HAF.out; have := HKY.out; omega
          have HCC := HST.out ((mxO a b L).ahead i + j) ⟨fr, BA, bn, bc, bl⟩ wr hklt (by rw [hkey, hat]; exact HBK.out) HJ.out.1; rw [hkey] at HCC; have HCD : Sl _ := ⟨HCC⟩; clear HCC hat hkey hklt; have hx5 := HJ.out.2.lt; go_wp2_with fail; refine HCL.out.mono ?_; rintro e w9 ⟨rfl, rfl⟩; go_wp2_with fail; refine HCD.out.mono ?_; rintro e w9 ⟨rfl, hi9, hb9⟩; have HI9 : Sl _ := ⟨And.intro hi9 (hb9 _ _ HJ.out.2)⟩; clear hi9 hb9; go_wp2_with fail; exact ⟨⟨j + 1, by have := HKY.out; omega, by have := HKY.out; congr 1; omega, ⟨HI9.out.1, HI9.out.2⟩⟩, by simp [RowKit.intOf]; omega⟩
        · have hkd : decide (key ≤ la) = false := decide_eq_false hkl
          have HEN : Sl (I (if i + 1 < n then (mxO a b L).ahead (i + 1) else (mxO a b L).keys) wr) := ⟨by
            have e : (mxO a b L).ahead i + j = if i + 1 < n then (mxO a b L).ahead (i + 1) else (mxO a b L).keys := by
              have hA : (mxO a b L).a = a := rfl; have hB : (mxO a b L).b = b := rfl; have := HAF.out; have := HKY.out; have hl := HLAF.out; have hml := HF.out.ord.last_le hix; rw [HLA.out, hB] at hml
              split
              · rename_i h; rw [if_pos h] at hl; unfold Mx.ahead; rw [hA, HFR.out]; omega
              · rename_i h; rw [if_neg h] at hl; unfold Mx.ahead Mx.keys; rw [hA, hB, HFR.out]; omega
            rw [← e]; exact HJ.out.1⟩
          clear HLAF; go_wp2_with fail; refine HCL.out.mono ?_; rintro e w9 ⟨rfl, rfl⟩; go_wp2_with fail; exact ⟨⟨i + 1, _, _, _, hin, by go_num, rfl, rfl, rfl, ⟨HEN.out⟩⟩, by simp [RowKit.intOf]; omega⟩
    · obtain rfl : i = n := (by omega); have HKE := HK.out; rw [if_neg (Nat.lt_irrefl _)] at HKE; have HKS : Sl _ := ⟨HKE⟩; clear HKE HK; go_wp2_with fail; go_end0; exact ⟨rfl, HKS.out⟩
end Go.Proofs.YtafadpaljanghaaGreatDoor
namespace Go.Proofs.YtafadpaljanghaaGreatDoor
set_option linter.unusedSimpArgs false
open Go.RowKit
set_option linter.unusedVariables false
theorem compact_len {l : List Int} : (Lib.compact l).length < l.length ↔ twin l = true := by
  have e : (Lib.compact l).length = (List.range l.length).countP (Lib.keeps l.toArray) := by
    unfold Lib.compact Lib.compactUpTo; rw [List.length_map, ← List.countP_eq_length_filter]
  have g : ∀ j, j < l.length → l.toArray[j]! = gt l j := fun j hj => by
    unfold gt; simp [List.getElem?_eq_getElem hj, hj]
  have hle : (List.range l.length).countP (Lib.keeps l.toArray) ≤ l.length := by
    have := List.countP_le_length (p := Lib.keeps l.toArray) (l := List.range l.length)
    rwa [List.length_range] at this
  have hall : (List.range l.length).countP (Lib.keeps l.toArray) = l.length ↔ ∀ j ∈ List.range l.length, Lib.keeps l.toArray j = true := by
    have := List.countP_eq_length (p := Lib.keeps l.toArray) (l := List.range l.length)
    rwa [List.length_range] at this
  rw [e]; unfold twin; rw [anyN_iff]; constructor
  · intro h; have hn : ¬ ∀ j ∈ List.range l.length, Lib.keeps l.toArray j = true := fun h2 => by have := hall.2 h2; omega
    refine Classical.byContradiction fun hc => hn fun j hj => ?_
    rw [List.mem_range] at hj; unfold Lib.keeps; rw [decide_eq_true_iff]; rcases Nat.eq_zero_or_pos j with h0 | h0
    · exact .inl h0
    · right
      rw [g j hj, g (j - 1) (by omega)]; intro h3; exact hc ⟨j - 1, by omega, by rw [show j - 1 + 1 = j by omega]; exact decide_eq_true h3⟩
  · rintro ⟨j, hj, h⟩; have h1 := of_decide_eq_true h; rcases Nat.lt_or_ge ((List.range l.length).countP (Lib.keeps l.toArray)) l.length with h2 | h2
    · exact h2
    · have h3 := hall.1 (by omega) (j + 1) (List.mem_range.2 (by omega)); unfold Lib.keeps at h3; rw [decide_eq_true_iff] at h3; rcases h3 with h3 | h3
      · omega
      · rw [g _ (by omega), show j + 1 - 1 = j by omega, g _ (by omega)] at h3; exact absurd h1 h3
theorem size_slice25 : (Tryz.prog.info? 36).map (·.size) = some 1 := by kernel_rfl
def DblI (x : Mx) (w0 : World) (gx gc B : Nat) (a b : Int) (A : Option Addr) (n c : Nat) (k : Nat) (W : World) : Prop :=
  Blk W gx 34 #[.int .i64 a, .int .i64 b, .slice A n c] ∧ (∃ v, Blk W gc 36 #[v] ∧ W.ownsRow B 3 1 v (x.dbl k).length ((x.dbl k).map iv)) ∧ Below w0.heap.size w0 W ∧ B ≤ W.heap.size
theorem Mx.dbl_len (x : Mx) : ∀ k, (x.dbl k).length ≤ k
  | 0 => Nat.le_refl _
  | k+1 => by
    unfold Mx.dbl
    split
    · rw [List.length_append]; have := Mx.dbl_len x k; simp; omega
    · have := Mx.dbl_len x k; omega
theorem DblI.inv {x : Mx} {w0 : World} {gx gc B : Nat} {a b : Int} {A : Option Addr} {n c : Nat} {L : List Bk} (hM : MXA w0 A n c L) : EachInv gx a b A n c L (DblI x w0 gx gc B a b A n c) := by
  refine ⟨fun k W h => ⟨h.1, hM.below h.2.2.1⟩, fun k W W' h hb => ?_⟩; obtain ⟨h1, ⟨v, h3, h4⟩, h5, h6⟩ := h; exact ⟨h1.below hb h1.lt, ⟨v, h3.below hb h3.lt, own_mv h4 (Mv.of_below hb) (fun q hq => by have := (h4.lt q hq).2; omega)⟩, h5.trans (hb.mono h5.size), Nat.le_trans h6 hb.size⟩
set_option maxHeartbeats 6400000 in
set_option maxRecDepth 100000 in
theorem dbl1_any (x : Mx) (w0 : World) (gx gc B : Nat) (a b : Int) (A : Option Addr) (n c : Nat) (L : List Bk) (hx : mxO a b L = x) (hF : x.Fine) (hgc : gc < B) (hgx : gx < B) (hw0 : w0.heap.size ≤ gc) (hw1 : w0.heap.size ≤ gx) (hne : gx ≠ gc) (k : Nat) (q : Bk) (W : World) (hk : k < x.keys) (hq : L[x.at (x.key k) x.n]? = some q) (hI : DblI x w0 gx gc B a b A n c k W) (hM : MXA w0 A n c L) :
    Calls Tryz.prog 52 #[.int .i64 (x.key k), .slice q.A q.n q.c, .pointer (some ⟨gc, 0, none⟩)] W fun e w' => e = .returned (.tuple #[]) ∧ DblI x w0 gx gc B a b A n c (k + 1) w' ∧ ∀ g5 cs, Blk W g5 59 cs → Blk w' g5 59 cs := by
  obtain ⟨i0, hi0, hz0, hz1, hz2⟩ := infoNt; have HI : Sl _ := ⟨And.intro hi0 (And.intro hz0 (And.intro hz1 hz2))⟩; clear hi0 hz0 hz1 hz2; obtain ⟨h1, ⟨v, h3, h4⟩, h5, h6⟩ := hI; have h2 : MXA W A n c L := hM.below h5; have hkin := hF.key_in hk; have hat := (hF.ord.at_in hkin.1 hkin.2).1; have hrk : x.rk (x.at (x.key k) x.n) = q.l := (by rw [← hx]; rw [← hx] at hq; exact (mxO_at hq).2); have hII : II W q.A q.n q.l := h2.mx.rk q (List.mem_of_getElem? hq)
  have hlen : 0 < q.n ∧ q.n ≤ 8 := by
    have a1 := hF.k1 _ hat; have a2 := hF.k0 _ hat; rw [hrk, hII.1] at a1 a2; exact ⟨a2, a1⟩
  have HD : Sl (x.dbl (k + 1) = if twin q.l then x.dbl k ++ [x.key k] else x.dbl k) := ⟨by rw [Mx.dbl, hrk]⟩; have HDL : Sl ((x.dbl k).length ≤ 61) := ⟨by have := x.dbl_len k; have := hF.keys_pos; omega⟩; obtain ⟨key, hkey⟩ : ∃ key, x.key k = key := ⟨_, rfl⟩; rw [hkey] at HD ⊢; have HX1 : Sl _ := ⟨h1⟩; have HV : Sl _ := ⟨h3⟩; have HO : Sl _ := ⟨h4⟩; have HU : Sl _ := ⟨h5⟩; have HBS : Sl _ := ⟨h6⟩; have ORD : Sl (gc < B ∧ gx < B ∧ w0.heap.size ≤ gc ∧ w0.heap.size ≤ gx ∧ gx ≠ gc) := ⟨⟨hgc, hgx, hw0, hw1, hne⟩⟩; clear h1 h2 h3 h4 h5 h6 hq hrk hat hkin hkey hgc hgx hw0 hw1 hne hx hF hk hM; obtain ⟨fr, QA, qn, qc, ql⟩ := q; simp only [] at hII hlen HD ⊢; obtain ⟨gb, o, rfl, hgb, hcs⟩ := hII.flat hlen.1; have HQL : Sl (ql.length = qn) := ⟨hII.1⟩; have HCL : Sl _ := ⟨Tryz.slices_Clone_int gb o qn qc ql W (by rw [hII.1]; exact Nat.le_refl _) (by omega) hcs⟩; clear hII hcs hgb; go_enter Tryz.func52, Tryz.ntmps52; go_wp2_with fail; refine HCL.out.mono ?_; rintro e w1 ⟨v1, rfl, hown, _, hb⟩; rw [List.take_of_length_le (by rw [HQL.out]; exact Nat.le_refl _)] at hown; obtain ⟨g1, c1, rfl, hg1, hg1l⟩ := hown.form hlen.1
  have hcap : qn ≤ c1 := by
    rcases hown.2 with ⟨h1, _⟩ | ⟨g', c', cur, e1, _, _, h2, _⟩
    · cases h1
    · injection e1 with e1 e2 e3; omega
  have hco := Tryz.slices_Compact_int_cells g1 0 qn c1 ql w1 (by rw [HQL.out]; exact Nat.le_refl _) (by omega) hcap (fun j hj => by
    rw [Nat.zero_add, hown.cellAt j (by rw [HQL.out] at hj; omega), List.getElem?_map, List.getElem?_eq_getElem hj]
    simp [List.getD, List.getElem?_eq_getElem hj]) (fun j hj => by rw [Nat.zero_add]; exact hown.frozenAt j)
  rw [List.take_of_length_le (by rw [HQL.out]; exact Nat.le_refl _)] at hco; have HCO : Sl _ := ⟨hco⟩; clear hco; have HM1 : Sl (Mv W.heap.size W w1 ∧ W.heap.size ≤ g1) := ⟨Mv.of_below hb, hg1⟩; clear hown hb HCL hcap hg1l hg1; go_wp2_with fail; refine HCO.out.mono ?_; rintro e w2 ⟨rfl, m, rfl⟩; have HM2 : Sl (Mv g1 w1 ((w1.drewN m).setCells g1 0 ((Lib.compact ql ++ List.replicate (qn - (Lib.compact ql).length) 0).map (Value.int .i64)))) := ⟨Mv.trans (Mv.drewN (Mv.refl g1 w1) m) (Mv.setCells _ _ _ _)⟩; generalize (w1.drewN m).setCells g1 0 ((Lib.compact ql ++ List.replicate (qn - (Lib.compact ql).length) 0).map (Value.int .i64)) = w3 at *
  have HBW : Sl (∀ p, p < W.heap.size → w3.heap[p]? = W.heap[p]?) := ⟨fun p hp => (HM2.out.block p (Nat.lt_of_lt_of_le hp HM1.out.1.size) (by have := HM1.out.2; omega)).trans (HM1.out.1.block p hp (by omega))⟩; have HB3 : Sl (Below W.heap.size W w3) := ⟨⟨HM2.out.os.trans HM1.out.1.os, HM2.out.tape.trans HM1.out.1.tape, HM2.out.output.trans HM1.out.1.output, Nat.le_trans HM1.out.1.size HM2.out.size, fun p hp => HBW.out p hp⟩⟩; replace HX1 : Sl (Blk w3 gx _ _) := ⟨HX1.out.below HB3.out HX1.out.lt⟩; have HV0 := HV; replace HV : Sl (Blk w3 gc 36 #[v]) := ⟨HV.out.below HB3.out HV.out.lt⟩; replace HO : Sl (w3.ownsRow B 3 1 v (x.dbl k).length ((x.dbl k).map iv)) := ⟨own_mv HO.out (Mv.of_below HB3.out) (fun q hq => by have := (HO.out.lt q hq).2; omega)⟩; replace HU : Sl (Below w0.heap.size w0 w3) := ⟨HU.out.trans (HB3.out.mono HU.out.size)⟩; replace HBS : Sl (B ≤ w3.heap.size) := ⟨Nat.le_trans HBS.out HB3.out.size⟩; have HKP : Sl (∀ g5 cs, Blk W g5 59 cs → Blk w3 g5 59 cs) := ⟨fun g5 cs h => h.below HB3.out h.lt⟩; clear HM1 HM2 HBW HB3 HV0 HCO; have htw := @compact_len ql; rw [HQL.out] at htw; obtain ⟨m2, hm2⟩ : ∃ m2, (Lib.compact ql).length = m2 := ⟨_, rfl⟩; rw [hm2] at htw ⊢; obtain ⟨t, ht⟩ : ∃ t, twin ql = t := ⟨_, rfl⟩; rw [ht] at htw HD; have HTW : Sl _ := ⟨htw⟩; clear htw hm2 ht
  cases t
  · have hnl : ¬ (m2 : Int) < (qn : Int) := fun h => by have := HTW.out.1 (by omega); cases this
    have hnd : decide ((m2 : Int) < (qn : Int)) = false := decide_eq_false hnl; have HDD : Sl (x.dbl (k + 1) = x.dbl k) := ⟨by rw [HD.out]; rfl⟩; go_wp2_with fail; go_end0; exact ⟨rfl, ⟨HX1.out, ⟨v, HV.out, by rw [HDD.out]; exact HO.out⟩, HU.out, HBS.out⟩, HKP.out⟩
  · have hl : (m2 : Int) < (qn : Int) := (by have := HTW.out.2 rfl; omega); have hld : decide ((m2 : Int) < (qn : Int)) = true := decide_eq_true hl; have HDD : Sl (x.dbl (k + 1) = x.dbl k ++ [key]) := ⟨by rw [HD.out]; rfl⟩; have cv := HV.out.cell 0; simp at cv; obtain ⟨nd, hnd⟩ : ∃ nd, (x.dbl k).length = nd := ⟨_, rfl⟩; rw [hnd] at HO HDL; have hnd61 := HDL.out; have HND : Sl _ := ⟨hnd⟩; clear hnd
    go_wp2_with ((with_reducible show wpList _ _ _ _ _ _); first
      | (at_builtin; (refine wpList_append_any _ rfl (.tmp 12) (.tmp 14) _ rfl B 3 i0 _ 1 8 Tryz.underlying36 HI.out.1 HI.out.2.1 HI.out.2.2.1 HI.out.2.2.2 rfl (by decide) v nd _ rfl (xown_alloc HO.out _) _ (some ⟨w3.heap.size, 0, none⟩) 1 1 [.int .i64 key] rfl (xreads1 _ _ _) (by intro u hu; simp at hu; subst hu; rfl) (by unfold maxLen; omega) (by omega) (by have := HBS.out; simp; omega) ?_; rintro v6 w4 hown hg hat; obtain ⟨gq, cq, rfl, _, _⟩ := hown.form (Nat.succ_pos _); have XQ : Sl (w4.ownsRow B 3 1 (.slice (some ⟨gq, 0, none⟩) (nd + 1) cq) (nd + 1) ((x.dbl (k + 1)).map iv)) := ⟨by rw [HDD.out, List.map_append]; exact hown⟩; have HMA : Sl (∀ p ob, w3.heap[p]? = some ob → v.ownBlock ≠ some p → w4.heap[p]? = some ob) := ⟨fun p ob hp hne => by have hpl : p < w3.heap.size := (Array.getElem?_eq_some_iff.1 hp).1; exact (hg.block p (by simp; omega) (fun e => hne e.symm)).trans ((Below.heap_alloc _ _ p hpl).trans hp)⟩; have HLN : Sl (Below B w3 w4) := ⟨xbelow_grown (Below.refl _ _) HBS.out HO.out hg⟩; clear hown hg hat cv; have XV : Sl (Blk w4 gc 36 #[v]) := ⟨HV.out.below HLN.out ORD.out.1⟩))
      | (refine wpList_store_cell rfl 36 (.tmp 2) (.tmp 15) rfl gc 0 (.slice (some ⟨gq, 0, none⟩) (nd + 1) cq) rfl rfl 36 #[v] #[.slice (some ⟨gq, 0, none⟩) (nd + 1) cq] XV.out (Nat.le_refl 1) rfl size_slice25 rfl rfl ?_; rintro w5 hm hsz hbk hqq; clear hqq; have XW : Sl (Blk w5 gc 36 #[.slice (some ⟨gq, 0, none⟩) (nd + 1) cq]) := ⟨hbk⟩; have XM : Sl (Mv gc w4 w5) := ⟨hm⟩; clear hm hsz hbk))
    go_end0; have hm5 := XM.out; have hne : ∀ q, (Value.slice (some ⟨gq, 0, none⟩) (nd + 1) cq).ownBlock = some q → q ≠ gc := fun q hq => by have := (XQ.out.lt q hq).1; have := ORD.out.1; omega
    refine ⟨rfl, ⟨(HX1.out.below HLN.out ORD.out.2.1).mv hm5 ORD.out.2.2.2.2, ⟨_, XW.out, ?_⟩, ?_, ?_⟩, fun g5 cs h => ?_⟩
    · rw [HDD.out]; have := own_mv XQ.out hm5 hne; rw [HDD.out] at this; rw [List.length_append, HND.out]; exact this
    · exact below_mv (HU.out.trans (HLN.out.mono (by have := ORD.out; omega))) hm5 ORD.out.2.2.1 (by have := HU.out.size; have := HLN.out.size; omega)
    · exact Nat.le_trans HBS.out (Nat.le_trans HLN.out.size hm5.size)
    · have h3 := HKP.out g5 cs h; have h4 : Blk w4 g5 _ cs := HMA.out g5 _ h3 (own_blk_ne HO.out h3 (by decide)); exact h4.mv hm5 (fun e => by subst e; exact Blk.ne_ h4 XV.out (by decide) rfl)
def Mx.dbls (x : Mx) : List Int := if x.chk = 0 then x.dbl x.keys else []
def DblR (x : Mx) (e : Ending) (w' : World) : Prop := ∃ A c, e = .returned (.tuple #[.slice A x.dbls.length c, .int .i64 x.chk]) ∧ II w' A x.dbls.length x.dbls
theorem DblR.bad {x : Mx} {r : Int} {w' : World} (h : x.chk = r) (h0 : r ≠ 0) : DblR x (.returned (.tuple #[.slice none 0 0, .int .i64 r])) w' := by
  have e : x.dbls = [] := (by unfold Mx.dbls; rw [if_neg (by rw [h]; exact h0)]); exact ⟨none, 0, by rw [e, h]; rfl, by rw [e]; exact II.nil _ _⟩
theorem own_slice {w : World} {base n : Nat} {e : TypeId} {v : Value} {l : List Int} (h : w.ownsRow base e 1 v n (l.map iv)) (hl : l.length = n) : ∃ A c, v = .slice A n c ∧ II w A n l := by
  have hr : ∃ A c, v = .slice A n c := by
    rcases h.2 with ⟨h1, h2⟩ | ⟨g, cap, cur, h1, _⟩
    · exact ⟨none, 0, by rw [h1, h2]⟩
    · exact ⟨_, _, h1⟩
  obtain ⟨A, c, rfl⟩ := hr; exact ⟨A, c, rfl, hl, Reads.of_own h⟩
set_option maxHeartbeats 6400000 in
set_option maxRecDepth 100000 in
theorem Doubles_any (a b : Int) (A : Option Addr) (n c : Nat) (L : List Bk) (w : World) (hM : MXA w A n c L) (ha : i64 a) (hb : i64 b) :
    Calls Tryz.prog 22 #[.agg #[.int .i64 a, .int .i64 b, .slice A n c]] w fun e w' => DblR (mxO a b L) e w' ∧ Below w.heap.size w w' := by
  have hmf : ∀ (fn : Fn) (first cap : Array Value) (w : World), (Instr.makeFunc fn first cap).run Tryz.prog w = .ok (.func fn first cap) w := fun _ _ _ _ => rfl
  have HU : Sl (Below w.heap.size w (w.alloc (.cells #[.int .i64 a, .int .i64 b, .slice A n c] 34))) := ⟨(Below.refl _ _).alloc (Nat.le_refl _) _⟩; have HBK : Sl _ := ⟨Blk.new w 34 #[.int .i64 a, .int .i64 b, .slice A n c]⟩; have HM : Sl _ := ⟨hM⟩; have HCK : Sl _ := ⟨Check_any a b A n c L _ (hM.below HU.out) ha hb⟩; clear hM ha hb; obtain ⟨x, hx⟩ : ∃ x, mxO a b L = x := ⟨_, rfl⟩; rw [hx] at HCK ⊢; have HX : Sl _ := ⟨hx⟩; clear hx; obtain ⟨r, hr⟩ : ∃ r, x.chk = r := ⟨_, rfl⟩; rw [hr] at HCK; have HR : Sl _ := ⟨hr⟩; clear hr; go_enter Tryz.func22, Tryz.ntmps22; go_wp2_with fail; generalize w.alloc (.cells #[.int .i64 a, .int .i64 b, .slice A n c] 34) = w0 at *
  refine HCK.out.mono ?_; rintro e w1 ⟨rfl, hb⟩; replace HU : Sl (Below w.heap.size w w1) := ⟨HU.out.trans (hb.mono HU.out.size)⟩; replace HBK : Sl (Blk w1 w.heap.size _ _) := ⟨HBK.out.below hb HBK.out.lt⟩; clear hb HCK
  by_cases h0 : r = 0
  · have h0b : (r != 0) = false := (by rw [h0]; rfl); have HCH : Sl (x.chk = 0) := ⟨by rw [HR.out, h0]⟩; have HF : Sl x.Fine := ⟨Mx.fine (Mx.chk_ok HCH.out).1⟩; clear HR; have hbn := Blk.new w1 36 #[.slice none 0 0]; have hbw : Below w1.heap.size w1 (w1.alloc (.cells #[.slice none 0 0] 36)) := (Below.refl _ _).alloc (Nat.le_refl _) _; have hs1 : (w1.alloc (.cells #[.slice none 0 0] 36)).heap.size = w1.heap.size + 1 := (by simp); have hI0 : DblI x w w.heap.size w1.heap.size (w1.heap.size + 1) a b A n c 0 (w1.alloc (.cells #[.slice none 0 0] 36)) := ⟨HBK.out.below hbw HBK.out.lt, ⟨_, hbn, World.ownsRow_nil _ _ _ _⟩, HU.out.trans (hbw.mono HU.out.size), by rw [hs1]; exact Nat.le_refl _⟩
    have HEA : Sl _ := ⟨eachD_any w.heap.size w1.heap.size a b A n c L (DblI x w w.heap.size w1.heap.size (w1.heap.size + 1) a b A n c) _ (by rw [HX.out]; exact HF.out) (DblI.inv HM.out) hI0 (fun k q W hk hq hI => by
      rw [HX.out] at hk hq ⊢
      exact dbl1_any x w w.heap.size w1.heap.size (w1.heap.size + 1) a b A n c L HX.out HF.out (Nat.lt_succ_self _) (by have := HBK.out.lt; omega) HU.out.size (Nat.le_refl _) (by have := HBK.out.lt; omega) k q W hk hq hI HM.out)⟩
    have hea := HEA.out; rw [HX.out] at hea; replace HEA : Sl _ := ⟨hea⟩; clear hbn hbw hs1 hI0 hea; go_wp2_with fail; refine HEA.out.mono ?_; rintro e w2 ⟨rfl, h1, ⟨v, h3, h4⟩, h5, h6⟩; have cv := h3.cell 0; simp at cv; obtain ⟨A2, c2, rfl, hii⟩ := own_slice h4 rfl; have HII : Sl _ := ⟨And.intro hii h5⟩; clear h1 h3 h4 h5 h6 hii HEA; go_wp2_with fail; go_ret2; have e : x.dbls = x.dbl x.keys := (by unfold Mx.dbls; rw [if_pos HCH.out]); refine ⟨⟨A2, c2, by rw [e, HCH.out]; rfl, by rw [e]; exact HII.out.1⟩, HII.out.2⟩
  · have h0b : (r != 0) = true := (by simpa using h0); have H0 : Sl _ := ⟨h0⟩; go_wp2_with fail; go_ret2; exact ⟨DblR.bad HR.out H0.out, HU.out⟩
end Go.Proofs.YtafadpaljanghaaGreatDoor
namespace Go.Proofs.YtafadpaljanghaaGreatDoor
set_option linter.unusedSimpArgs false
open Go.RowKit Go.Maps Go.WideShapes Go.ChangeMaps
set_option linter.unusedVariables false
def CM (W : World) (gm T : Nat) (f : Int → Nat) : Prop := ∃ D : DataW Unit, W.ownsMap Tryz.prog 3 (plainElem Tryz.prog 3) gm T D ∧ IsMap D ∧ ∀ v : Int, D.atKey (.int .i64 v) (.lit (.int .i64 0)) = .lit (.int .i64 (f v : Int))
theorem CM.kept {W W' : World} {gm T : Nat} {f : Int → Nat} {row : Option Nat} (h : CM W gm T f) (hg : W.grownBy W' row) (hne : some gm ≠ row) : CM W' gm T f := by
  obtain ⟨D, h1, h2, h3⟩ := h; exact ⟨D, h1.kept hg hne, h2, h3⟩
theorem CM.lt {W : World} {gm T : Nat} {f : Int → Nat} (h : CM W gm T f) : gm < W.heap.size := by
  obtain ⟨D, h1, _⟩ := h; exact h1.lt
theorem CM.below {W W' : World} {gm T : Nat} {f : Int → Nat} (h : CM W gm T f) (hb : Below W.heap.size W W') : CM W' gm T f :=
  h.kept (row := none) ⟨hb.os, hb.tape, hb.output, hb.size, fun k hk _ => hb.block k hk⟩ (by simp)
theorem CM.congr {W : World} {gm T : Nat} {f g : Int → Nat} (h : CM W gm T f) (e : ∀ v, f v = g v) : CM W gm T g := by
  obtain ⟨D, h1, h2, h3⟩ := h; exact ⟨D, h1, h2, fun v => by rw [h3, e]⟩
theorem CM.put {W' : World} {gm T : Nat} {f : Int → Nat} {D : DataW Unit} (h2 : IsMap D) (h3 : ∀ v : Int, D.atKey (.int .i64 v) (.lit (.int .i64 0)) = .lit (.int .i64 (f v : Int))) {u : Int} {z : Int} (hz : z = (f u : Int) + 1) (hown : W'.ownsMap Tryz.prog 3 (plainElem Tryz.prog 3) gm (T + 1) (D.put (.int .i64 u) (.lit (.int .i64 z)))) : CM W' gm (T + 1) (fun v => f v + if u = v then 1 else 0) := by
  refine ⟨_, hown, h2.put _ _, fun v => ?_⟩
  by_cases e : u = v
  · subst e; rw [atKey_put_same (k := .int .i64 u) h2 trivial]; show DataW.lit (.int .i64 z) = .lit (.int .i64 ((f u + if u = u then 1 else 0 : Nat) : Int)); rw [if_pos rfl, hz]; rfl
  · rw [atKey_put_other (fun h => e (by injection h with _ h; exact h.symm)), h3]; show DataW.lit (.int .i64 ((f v : Nat) : Int)) = .lit (.int .i64 ((f v + if u = v then 1 else 0 : Nat) : Int)); rw [if_neg e]; rfl
theorem CM.mono {W : World} {gm T T' : Nat} {f : Int → Nat} (h : CM W gm T f) (ht : T ≤ T') : CM W gm T' f := by
  obtain ⟨D, h1, h2, h3⟩ := h; exact ⟨D, h1.mono ht, h2, h3⟩
def Mx.cnts (x : Mx) : List (Nat × Nat) := if x.chk = 0 then x.counts 140 else []
def cC (p : Nat × Nat) : List Value := [.int .i64 (p.1 : Int), .int .i64 (p.2 : Int)]
def CntR (x : Mx) (e : Ending) (w' : World) : Prop := ∃ A c, e = .returned (.tuple #[.slice A x.cnts.length c, .int .i64 x.chk]) ∧ Reads w' w'.heap.size 2 A x.cnts.length (x.cnts.flatMap cC)
theorem CntR.bad {x : Mx} {r : Int} {w' : World} (h : x.chk = r) (h0 : r ≠ 0) : CntR x (.returned (.tuple #[.slice none 0 0, .int .i64 r])) w' := by
  have e : x.cnts = [] := (by unfold Mx.cnts; rw [if_neg (by rw [h]; exact h0)]); exact ⟨none, 0, by rw [e, h]; rfl, by rw [e]; exact Reads.none_⟩
theorem own_slice2 {w : World} {base size n : Nat} {e : TypeId} {v : Value} {xs : List Value} (h : w.ownsRow base e size v n xs) : ∃ A c, v = .slice A n c ∧ Reads w w.heap.size size A n xs := by
  have hr : ∃ A c, v = .slice A n c := by
    rcases h.2 with ⟨h1, h2⟩ | ⟨g, cap, cur, h1, _⟩
    · exact ⟨none, 0, by rw [h1, h2]⟩
    · exact ⟨_, _, h1⟩
  obtain ⟨A, c, rfl⟩ := hr; exact ⟨A, c, rfl, Reads.of_own h⟩
theorem xreadsN (W : World) (T : TypeId) (cs : List Value) (sz : Nat) (h : cs.length = sz) : Reads (W.alloc (.cells cs.toArray T)) (W.heap.size + 1) sz (some ⟨W.heap.size, 0, none⟩) 1 cs := by
  refine ⟨by omega, fun _ => ⟨_, rfl, Nat.lt_succ_self _, fun j u hu => ?_⟩⟩
  have e : (⟨W.heap.size, 0, none⟩ : Addr).add j = ⟨W.heap.size, j, none⟩ := by
    unfold Addr.add
    by_cases h : j = 0
    · subst h; simp
    · simp [h]
  rw [e, (Blk.new W T cs.toArray).cell j]; simpa using hu
end Go.Proofs.YtafadpaljanghaaGreatDoor
namespace Go.Proofs.YtafadpaljanghaaGreatDoor
set_option linter.unusedSimpArgs false
open Go.RowKit
set_option linter.unusedVariables false
def Mx.stps (x : Mx) : List (Int × Nat × Int) := if x.chk = 0 then x.steps (x.n - 1) else []
def sC (p : Int × Nat × Int) : List Value := [.int .i64 p.1, .int .i64 (p.2.1 : Int), .int .i64 p.2.2]
def StpR (x : Mx) (e : Ending) (w' : World) : Prop := ∃ A c, e = .returned (.tuple #[.slice A x.stps.length c, .int .i64 x.chk]) ∧ Reads w' w'.heap.size 3 A x.stps.length (x.stps.flatMap sC)
theorem StpR.bad {x : Mx} {r : Int} {w' : World} (h : x.chk = r) (h0 : r ≠ 0) : StpR x (.returned (.tuple #[.slice none 0 0, .int .i64 r])) w' := by
  have e : x.stps = [] := (by unfold Mx.stps; rw [if_neg (by rw [h]; exact h0)]); exact ⟨none, 0, by rw [e, h]; rfl, by rw [e]; exact Reads.none_⟩
theorem stepsL_len (key : Int) (p q : List Int) : ∀ k, (stepsL key p q k).length ≤ k
  | 0 => Nat.le_refl _
  | k+1 => by
    rw [stepsL]; have := stepsL_len key p q k
    split
    · omega
    · rw [List.length_append]; simp; omega
theorem Mx.Fine.steps_len {x : Mx} (h : x.Fine) : ∀ i, i + 1 ≤ x.n → (x.steps i).length ≤ 8 * i
  | 0, _ => Nat.le_refl _
  | i+1, hi => by
    rw [Mx.steps, List.length_append]; have h1 := h.steps_len i (by omega); have h2 := stepsL_len (x.fr (i + 1)) (x.rk i) (x.rk (i + 1)) (min (x.rk i).length (x.rk (i + 1)).length); have h3 := h.k1 i (by omega); have : min (x.rk i).length (x.rk (i + 1)).length ≤ 8 := (by omega); omega
theorem infoStp : ∃ (i : TypeInfo) (z : Value), Tryz.prog.info? 55 = some i ∧ i.zero = some z ∧ i.size = 3 ∧ i.bytes = 24 ∧ z.cells.size = 3 := by
  have h : (Tryz.prog.info? 55).isSome = true := (by kernel_rfl); obtain ⟨i, hi⟩ := Option.isSome_iff_exists.1 h; have h1 : (Tryz.prog.info? 55).bind (·.zero) = some (.agg #[.int .i64 0, .int .i64 0, .int .i64 0]) := (by kernel_rfl); have h2 : (Tryz.prog.info? 55).map (·.size) = some 3 := (by kernel_rfl); have h3 : (Tryz.prog.info? 55).map (·.bytes) = some 24 := (by kernel_rfl); rw [hi] at h1 h2 h3; exact ⟨i, _, hi, by simpa using h1, by simpa using h2, by simpa using h3, rfl⟩
set_option maxHeartbeats 12800000 in
set_option maxRecDepth 100000 in
theorem Steps_any (a b : Int) (A : Option Addr) (n c : Nat) (L : List Bk) (w : World) (hM : MXA w A n c L) (ha : i64 a) (hb : i64 b) :
    Calls Tryz.prog 20 #[.agg #[.int .i64 a, .int .i64 b, .slice A n c]] w fun e w' => StpR (mxO a b L) e w' ∧ Below w.heap.size w w' := by
  have HU : Sl (Below w.heap.size w (w.alloc (.cells #[.int .i64 a, .int .i64 b, .slice A n c] 34))) := ⟨(Below.refl _ _).alloc (Nat.le_refl _) _⟩; have HBK : Sl _ := ⟨Blk.new w 34 #[.int .i64 a, .int .i64 b, .slice A n c]⟩; have HM : Sl _ := ⟨hM.below HU.out⟩; have HCK : Sl _ := ⟨Check_any a b A n c L _ HM.out ha hb⟩; have HL : Sl (L.length = n) := ⟨hM.mx.len⟩; clear hM ha hb; obtain ⟨i2, z2, hi0, hz0, hz1, hz2, hz3⟩ := infoStp; have HI : Sl _ := ⟨And.intro hi0 (And.intro hz0 (And.intro hz1 (And.intro hz2 hz3)))⟩; clear hi0 hz0 hz1 hz2 hz3; obtain ⟨x, hx⟩ : ∃ x, mxO a b L = x := ⟨_, rfl⟩; rw [hx] at HCK ⊢; have HX : Sl _ := ⟨hx⟩; clear hx; obtain ⟨r, hr⟩ : ∃ r, x.chk = r := ⟨_, rfl⟩; rw [hr] at HCK; have HR : Sl _ := ⟨hr⟩; clear hr; go_enter Tryz.func20, Tryz.ntmps20; go_wp2_with fail; generalize w.alloc (.cells #[.int .i64 a, .int .i64 b, .slice A n c] 34) = w0 at *
  refine HCK.out.mono ?_; rintro e w1 ⟨rfl, hb⟩; replace HU : Sl (Below w.heap.size w w1) := ⟨HU.out.trans (hb.mono HU.out.size)⟩; replace HBK : Sl (Blk w1 w.heap.size _ _) := ⟨HBK.out.below hb HBK.out.lt⟩; replace HM : Sl (MXA w1 A n c L) := ⟨HM.out.below hb⟩; clear hb HCK
  by_cases h0 : r = 0
  · have h0b : (r != 0) = false := (by rw [h0]; rfl); have HCH : Sl (x.chk = 0) := ⟨by rw [HR.out, h0]⟩; have HF : Sl x.Fine := ⟨Mx.fine (Mx.chk_ok HCH.out).1⟩; have HXN : Sl (x.n = n) := ⟨by rw [← HX.out, mxO_n, HL.out]⟩; clear HR; have hn1 : 0 < n ∧ n ≤ 12 := (by have h1 := HF.out.ord.pos; have h2 := HF.out.n1; rw [HXN.out] at h1 h2; exact ⟨h1, h2⟩); have hcap := HM.out.cap; obtain ⟨m, hm⟩ : ∃ m, n = m + 1 := ⟨n - 1, by omega⟩; subst hm
    obtain ⟨gb, o, hA, hgb⟩ : ∃ gb o, A = some ⟨gb, o, none⟩ ∧ gb < w1.heap.size := by
      obtain ⟨bk, hbk⟩ : ∃ bk, L[0]? = some bk := ⟨_, List.getElem?_eq_getElem (by rw [HL.out]; omega)⟩; obtain ⟨ad, e, h1, h2, _⟩ := HM.out.mx.cells hbk; obtain ⟨gb, o, sp⟩ := ad
      have : sp = none := by
        cases sp with
        | none => rfl
        | some s =>
          unfold World.cell? at h2; simp [Addr.add] at h2
          split at h2
          · cases h2
          · cases h2
      subst this; exact ⟨gb, o, e, h1⟩
    subst hA
    have HCE : Sl (∀ (W : World) (i : Nat) (q : Bk), Below w1.heap.size w1 W → L[i]? = some q → W.cell? ⟨gb, o + i * 2, none⟩ = some (.int .i64 q.fr) ∧ W.cell? ⟨gb, o + i * 2 + 1, none⟩ = some (.slice q.A q.n q.c) ∧ II W q.A q.n q.l) := ⟨fun W i q h hq => by
      obtain ⟨ad, e, _, h1, h2⟩ := (HM.out.below h).mx.cells hq; injection e with e
      subst e
      have e : ∀ k : Nat, (⟨gb, o, none⟩ : Addr).add k = ⟨gb, o + k, none⟩ := fun k => by
        unfold Addr.add
        by_cases h : k = 0
        · subst h; simp
        · simp [h]
      rw [e] at h1 h2
      exact ⟨h1, h2, (HM.out.below h).mx.rk q (List.mem_of_getElem? hq)⟩⟩
    have cc2 := HBK.out.cell 2; simp at cc2; have hm12 : m ≤ 11 := (by omega)
    by_cases hc1 : c = 1
    · have hm0 : m = 0 := (by omega); subst hm0 hc1; go_wp2_with fail; refine Go.wp_loop_rounds 1 ?_; rw [Go.rounds_succ]; go_wp2_with fail; go_ret2; have e : x.stps = [] := (by unfold Mx.stps; rw [if_pos HCH.out, HXN.out]; rfl); exact ⟨⟨none, 0, by rw [e, HCH.out]; rfl, by rw [e]; exact Reads.none_⟩, HU.out⟩
    · have hc2 : ¬ c = 1 := hc1; go_wp2_with fail
      go_loopw [5, 6, 7, 8, 9, 10, 20] (fun s5 s6 s7 s8 s9 s10 s20 wr => ∃ (i : Nat) (v v6 v7 v8 v9 v10 : Value), i ≤ m ∧ s20 = .int .i64 i ∧ v = s5 ∧ s6 = v6 ∧ s7 = v7 ∧ s8 = v8 ∧ s9 = v9 ∧ s10 = v10 ∧ Sl (wr.ownsRow w1.heap.size 55 3 v (x.steps i).length ((x.steps i).flatMap sC) ∧ Below w1.heap.size w1 wr)) (fun _ _ _ _ _ _ s20 _ => m - (RowKit.intOf s20).toNat)
      case atStart => exact ⟨0, _, _, _, _, _, _, Nat.zero_le _, rfl, rfl, rfl, rfl, rfl, rfl, rfl, ⟨World.ownsRow_nil _ _ _ _, Below.refl _ _⟩⟩
      case round =>
        obtain ⟨i, v, v6, v7, v8, v9, v10, hi, rfl, rfl, rfl, rfl, rfl, rfl, rfl, HK⟩ := hrel; clear cc2
        by_cases him : i < m
        · obtain ⟨p, hp⟩ : ∃ p, L[i]? = some p := ⟨_, List.getElem?_eq_getElem (by rw [HL.out]; omega)⟩; obtain ⟨q, hq⟩ : ∃ q, L[i + 1]? = some q := ⟨_, List.getElem?_eq_getElem (by rw [HL.out]; omega)⟩; have HBW : Sl (Below wr.heap.size wr (wr.alloc (.cells #[.int .i64 q.fr, .slice q.A q.n q.c] 59))) := ⟨(Below.refl _ _).alloc (Nat.le_refl _) _⟩; have HWQ : Sl (Below w1.heap.size w1 (wr.alloc (.cells #[.int .i64 q.fr, .slice q.A q.n q.c] 59))) := ⟨HK.out.2.trans (HBW.out.mono HK.out.2.size)⟩; obtain ⟨_, p2, hip⟩ := HCE.out _ i p HWQ.out hp; obtain ⟨q1, q2, _⟩ := HCE.out wr (i + 1) q HK.out.2 hq; obtain ⟨_, _, hiq⟩ := HCE.out _ (i + 1) q HWQ.out hq; rw [show o + (i + 1) * 2 = o + 2 + i * 2 by omega] at q1 q2; have HRK : Sl (x.fr (i + 1) = q.fr ∧ x.rk i = p.l ∧ x.rk (i + 1) = q.l) := ⟨by rw [← HX.out]; exact ⟨(mxO_at hq).1, (mxO_at hp).2, (mxO_at hq).2⟩⟩; have HIP : Sl _ := ⟨hip⟩; have HIQ : Sl _ := ⟨hiq⟩; have hp8 : p.n ≤ 8 := (by have := HF.out.k1 i (by rw [HXN.out]; omega); rw [HRK.out.2.1, hip.1] at this; exact this); have hq8 : q.n ≤ 8 := (by have := HF.out.k1 (i + 1) (by rw [HXN.out]; omega); rw [HRK.out.2.2, hiq.1] at this; exact this); have HPB : Sl (∀ j, j < p.n → -24 ≤ gt p.l j ∧ gt p.l j ≤ 72) := ⟨fun j hj => by have := HF.out.rg i (by rw [HXN.out]; omega) j (by rw [HRK.out.2.1, hip.1]; exact hj); rw [HRK.out.2.1] at this; exact this⟩; have HQB : Sl (∀ j, j < q.n → -24 ≤ gt q.l j ∧ gt q.l j ≤ 72) := ⟨fun j hj => by have := HF.out.rg (i + 1) (by rw [HXN.out]; omega) j (by rw [HRK.out.2.2, hiq.1]; exact hj); rw [HRK.out.2.2] at this; exact this⟩; have HSL : Sl ((x.steps i).length ≤ 100) := ⟨by have := HF.out.steps_len i (by rw [HXN.out]; omega); omega⟩; have hqc : q.n ≤ q.c := ((HM.out.below HK.out.2).rc q (List.mem_of_getElem? hq)).1; have HIW : Sl (∀ W, Below w1.heap.size w1 W → II W p.A p.n p.l ∧ II W q.A q.n q.l) := ⟨fun W h => ⟨(HCE.out W i p h hp).2.2, (HCE.out W (i + 1) q h hq).2.2⟩⟩; clear hip hiq hp hq; obtain ⟨pf, PA, pn, pc, pl⟩ := p; obtain ⟨qf, QA, qn, qc, ql⟩ := q; simp only [] at p2 q1 q2 HRK HIW HIP HIQ hp8 hq8 HPB HQB hqc HBW HWQ; have XN : Sl (Blk (wr.alloc (.cells #[.int .i64 qf, .slice QA qn qc] 59)) wr.heap.size 59 #[.int .i64 qf, .slice QA qn qc]) := ⟨Blk.new _ _ _⟩; have hiI : (i : Int) < (m : Int) := (by omega); have hiI2 : (i : Int) < (m : Int) + 1 := (by omega); have him2 : i < m + 1 := (by omega); have cc2 := (HBK.out.below HWQ.out HBK.out.lt).cell 2; simp at cc2; obtain ⟨mn, hmn⟩ : ∃ mn, min pn qn = mn := ⟨_, rfl⟩; have hmi : min (pn : Int) (qn : Int) = (mn : Int) := (by rw [← hmn]; omega); have hmq : mn ≤ qn := (by omega); have hmp : mn ≤ pn := (by omega); have HMN : Sl _ := ⟨hmn⟩; clear hmn; go_wp2_with fail; have HOQ : Sl ((wr.alloc (.cells #[.int .i64 qf, .slice QA qn qc] 59)).ownsRow w1.heap.size 55 3 v (x.steps i ++ stepsL qf pl ql 0).length ((x.steps i ++ stepsL qf pl ql 0).flatMap sC)) := ⟨by rw [stepsL, List.append_nil]; exact xown_alloc HK.out.1 _⟩
          generalize wr.alloc (.cells #[.int .i64 qf, .slice QA qn qc] 59) = wq at *
          obtain ⟨g7, hg7⟩ : ∃ g7, wr.heap.size = g7 := ⟨_, rfl⟩; rw [hg7] at XN; rw [hg7]; clear hg7 HBW HK cc2 p2 q1 q2 HIP HIQ
          go_loopw [5, 9, 10, 41] (fun s5 s9 s10 s41 wr => ∃ (k : Nat) (v v9 v10 : Value), k ≤ mn ∧ s41 = .int .i64 k ∧ v = s5 ∧ s9 = v9 ∧ s10 = v10 ∧ Sl (wr.ownsRow w1.heap.size 55 3 v (x.steps i ++ stepsL qf pl ql k).length ((x.steps i ++ stepsL qf pl ql k).flatMap sC) ∧ Below w1.heap.size w1 wr ∧ Blk wr g7 59 #[.int .i64 qf, .slice QA qn qc])) (fun _ _ _ s41 _ => mn - (RowKit.intOf s41).toNat)
          case atStart => exact ⟨0, _, _, _, Nat.zero_le _, rfl, rfl, rfl, rfl, ⟨HOQ.out, HWQ.out, XN.out⟩⟩
          case round =>
            clear HOQ HWQ XN; obtain ⟨k, v, v9, v10, hkm, rfl, rfl, rfl, rfl, HK⟩ := hrel
            by_cases hkn : k < mn
            · obtain ⟨hip, hiq⟩ := HIW.out wr HK.out.2.1; obtain ⟨ap, hap, _, cp⟩ := hip.cell (j := k) (by omega); obtain ⟨aq, haq, _, cq⟩ := hiq.cell (j := k) (by omega); subst hap haq; have hzp := HPB.out k (by omega); have hzq := HQB.out k (by omega); obtain ⟨zp, hp⟩ : ∃ z, gt pl k = z := ⟨_, rfl⟩; obtain ⟨zq, hq⟩ : ∃ z, gt ql k = z := ⟨_, rfl⟩; rw [hp] at cp hzp; rw [hq] at cq hzq; have HPQ : Sl _ := ⟨And.intro hp hq⟩; have HST : Sl (stepsL qf pl ql (k + 1) = if zq = zp then stepsL qf pl ql k else stepsL qf pl ql k ++ [(qf, k, zq - zp)]) := ⟨by rw [stepsL, hp, hq]⟩; have hkI : (k : Int) < (mn : Int) := (by omega); have hkI2 : (k : Int) < (pn : Int) := (by omega); have hkn2 : k < pn := (by omega); have hkn3 : k < qn := (by omega); clear hp hq hip hiq
              by_cases hz : zq = zp
              · have hzb : (zq != zp) = false := (by rw [hz]; simp); have HSE : Sl (stepsL qf pl ql (k + 1) = stepsL qf pl ql k) := ⟨by rw [HST.out, if_pos hz]⟩; subst hz; go_wp2_with fail; exact ⟨⟨k + 1, v, _, _, hkn, by go_num, rfl, rfl, rfl, ⟨by rw [HSE.out]; exact HK.out.1, HK.out.2⟩⟩, by simp [RowKit.intOf]; omega⟩
              · have hzb : (zq != zp) = true := (by simpa using hz); have HSE : Sl (x.steps i ++ stepsL qf pl ql (k + 1) = (x.steps i ++ stepsL qf pl ql k) ++ [(qf, k, zq - zp)]) := ⟨by rw [HST.out, if_neg hz, List.append_assoc]⟩; have hw : IntKind.i64.wrap (zq - zp) = zq - zp := (by rw [IntKind.wrap_i64]; omega); have hsl := stepsL_len qf pl ql k; have hsi := HSL.out; obtain ⟨nd, hnd⟩ : ∃ nd, (x.steps i ++ stepsL qf pl ql k).length = nd := ⟨_, rfl⟩; have hnd2 : nd ≤ 200 := (by rw [← hnd, List.length_append]; omega); have HND : Sl _ := ⟨hnd⟩; have hko := HK.out.1; rw [hnd] at hko; have HKO : Sl _ := ⟨hko⟩; clear hnd hko hsl hsi hz; go_wp2_with fail; have c70 : wr.drew.cell? ⟨g7, 0, none⟩ = some (.int .i64 qf) := HK.out.2.2.cell 0; have cpd : wr.drew.cell? (ap.add k) = some (.int .i64 zp) := cp; have HOA : Sl ((wr.drew.alloc (.cells #[.int .i64 qf, .int .i64 (k : Int), .int .i64 (zq - zp)] 55)).ownsRow w1.heap.size 55 3 v nd ((x.steps i ++ stepsL qf pl ql k).flatMap sC)) := ⟨xown_alloc (w := wr.drew) HKO.out _⟩; have hsd : RowKit.Below w1.heap.size w1 wr.drew := below_drewN HK.out.2.1 1; have hsa := hsd.alloc hsd.size (.cells #[.int .i64 qf, .int .i64 (k : Int), .int .i64 (zq - zp)] 55); have HSA : Sl _ := ⟨hsa⟩; have hb7 : Blk (wr.drew.alloc (.cells #[.int .i64 qf, .int .i64 (k : Int), .int .i64 (zq - zp)] 55)) g7 59 #[.int .i64 qf, .slice (some aq) qn qc] := Blk.alloc (w := wr.drew) HK.out.2.2 _; have HB7 : Sl _ := ⟨hb7⟩; have c70a : (wr.drew.alloc (.cells #[.int .i64 qf, .int .i64 (k : Int), .int .i64 (zq - zp)] 55)).cell? ⟨g7, 0, none⟩ = some (.int .i64 qf) := hb7.cell 0
                have cpa : (wr.drew.alloc (.cells #[.int .i64 qf, .int .i64 (k : Int), .int .i64 (zq - zp)] 55)).cell? (ap.add k) = some (.int .i64 zp) := by
                  obtain ⟨hip, _⟩ := HIW.out _ HSA.out; obtain ⟨ap2, e, _, c⟩ := hip.cell (j := k) hkn2; injection e with e
                  subst e; rw [HPQ.out.1] at c; exact c
                clear hsa hb7 hsd
                go_region_held3 (fun w' : World => w'.cell? ⟨g7, 0, none⟩ = some (.int .i64 qf) ∧ w'.cell? (ap.add k) = some (.int .i64 zp))
                  (first | exact ⟨by assumption, by assumption⟩ | go_keep | fail)
                  ((refine step_append_any _ (by rfl) _ _ _ (by rfl) w1.heap.size 55 i2 z2 3 24 Tryz.underlying51 HI.out.1 HI.out.2.1 HI.out.2.2.1 HI.out.2.2.2.1 HI.out.2.2.2.2 (by decide) v nd _ (by rfl) HOA.out _ (some ⟨wr.heap.size, 0, none⟩) 1 1 [.int .i64 qf, .int .i64 (k : Int), .int .i64 (zq - zp)] (by rfl) (xreadsN wr.drew 55 [.int .i64 qf, .int .i64 (k : Int), .int .i64 (zq - zp)] 3 rfl) (by intro u hu; simp at hu; rcases hu with rfl | rfl | rfl <;> rfl) (by unfold maxLen; omega) (by omega) HSA.out.size ?_; intro v1 w3 hown1 hg1 hat1; have hs3 := HSA.out.grown hg1 HSA.out.size (fun k hk => (HOA.out.lt k hk).1); have HB3 : Sl (Blk w3 g7 59 #[.int .i64 qf, .slice (some aq) qn qc]) := ⟨HB7.out.grown hg1 (fun e => own_blk_ne HOA.out HB7.out (by decide) e.symm)⟩; have c70b : w3.cell? ⟨g7, 0, none⟩ = some (.int .i64 qf) := HB3.out.cell 0; have cpb : w3.cell? (ap.add k) = some (.int .i64 zp) := (by obtain ⟨hip, _⟩ := HIW.out _ hs3; obtain ⟨ap2, e, _, c⟩ := hip.cell (j := k) hkn2; injection e with e; subst e; rw [HPQ.out.1] at c; exact c)))
                have XQ : Sl (w3.ownsRow w1.heap.size 55 3 v1 (x.steps i ++ stepsL qf pl ql (k + 1)).length ((x.steps i ++ stepsL qf pl ql (k + 1)).flatMap sC)) := ⟨by rw [HSE.out, List.flatMap_append, List.length_append, HND.out]; exact hown1⟩; have HS3 : Sl _ := ⟨hs3⟩; clear hown1 hg1 hat1 hs3 c70 cpd c70a cpa c70b cpb; go_wp2_with fail; exact ⟨⟨k + 1, v1, _, _, hkn, by go_num, rfl, rfl, rfl, ⟨XQ.out, HS3.out, HB3.out⟩⟩, by simp [RowKit.intOf]; omega⟩
            · obtain rfl : k = mn := (by omega)
              have HEN : Sl (x.steps i ++ stepsL qf pl ql k = x.steps (i + 1)) := ⟨by
                rw [Mx.steps, HRK.out.1, HRK.out.2.1, HRK.out.2.2]; have e1 : pl.length = pn := (HIW.out _ HK.out.2.1).1.1; have e2 : ql.length = qn := (HIW.out _ HK.out.2.1).2.1
                rw [e1, e2, HMN.out]⟩
              have hko := HK.out.1; rw [HEN.out] at hko; have HKO : Sl _ := ⟨hko⟩; clear hko; go_wp2_with fail; exact ⟨⟨i + 1, v, _, _, _, _, _, him, by go_num, rfl, rfl, rfl, rfl, rfl, rfl, ⟨HKO.out, HK.out.2.1⟩⟩, by simp [RowKit.intOf]; omega⟩
        · obtain rfl : i = m := (by omega); obtain ⟨A2, c2, rfl, hrd⟩ := own_slice2 HK.out.1; have HRD : Sl _ := ⟨hrd⟩; clear hrd; go_wp2_with fail; go_ret2; have e : x.stps = x.steps i := (by unfold Mx.stps; rw [if_pos HCH.out, HXN.out, Nat.add_sub_cancel]); exact ⟨⟨A2, c2, by rw [e, HCH.out]; rfl, by rw [e]; exact HRD.out⟩, HU.out.trans (HK.out.2.mono HU.out.size)⟩
  · have h0b : (r != 0) = true := (by simpa using h0); have H0 : Sl _ := ⟨h0⟩; go_wp2_with fail; go_ret2; exact ⟨StpR.bad HR.out H0.out, HU.out⟩
end Go.Proofs.YtafadpaljanghaaGreatDoor
namespace Go.Proofs.YtafadpaljanghaaGreatDoor
set_option linter.unusedSimpArgs false
open Go.RowKit
set_option linter.unusedVariables false
def okT (l : List (Nat × Int)) : Prop := l.length ≤ 16 ∧ ∀ x ∈ l, 1 ≤ x.1 ∧ x.1 ≤ 1000000000000 ∧ -1000000000 ≤ x.2 ∧ x.2 ≤ 1000000000
set_option maxHeartbeats 800000 in
set_option maxRecDepth 100000 in
theorem rcheck_ok (A : Option Addr) (n c : Nat) (l : List (Nat × Int)) (w : World) (hl : TR w A n l) (hok : okT l) :
    Calls Tryz.prog 78 #[.slice A n c] w fun e w' => e = .returned (.int .i64 0) ∧ Below w.heap.size w w' := by
  have hn : n ≤ 16 := (by rw [← hl.1]; exact hok.1); have HL : Sl _ := ⟨hl⟩; have HK : Sl _ := ⟨hok⟩; clear hl hok; go_enter Tryz.func78, Tryz.ntmps78; go_wp2_with fail
  go_loopw [10] (fun s10 wr => ∃ i : Nat, i ≤ n ∧ s10 = .int .i64 i ∧ Below w.heap.size w wr) (fun s10 _ => n - (RowKit.intOf s10).toNat)
  case atStart => exact ⟨0, Nat.zero_le _, rfl, Below.refl _ _⟩
  case round =>
    obtain ⟨i, hi, rfl, hB⟩ := hrel
    by_cases hin : i < n
    · obtain ⟨⟨nn, kk⟩, hx⟩ : ∃ x, l[i]? = some x := ⟨_, List.getElem?_eq_getElem (by rw [HL.out.1]; exact hin)⟩; obtain ⟨ad, rfl, hab, c1, c2⟩ := (HL.out.below hB).cells hx
      have e1 : (ad.add (i * 2)).add 1 = ⟨(ad.add (i * 2)).block, (ad.add (i * 2)).off + 1, none⟩ := by
        generalize ad.add (i * 2) = a1; simp [Addr.add]
      rw [← add_of_add, e1] at c2; have hk := HK.out.2 _ (List.mem_of_getElem? hx); obtain ⟨k1, k2, k3, k4⟩ := hk; simp only [] at k1 k2 k3 k4; have hB1 := hB.alloc hB.size (.cells #[.int .i64 (nn : Int), .int .i64 kk] 69); clear e1 hx; go_wp2_with fail; exact ⟨⟨i + 1, hin, by go_num, hB1⟩, by simp [RowKit.intOf]; omega⟩
    · obtain rfl : i = n := (by omega); go_wp2_with fail; go_ret; exact ⟨rfl, hB⟩
end Go.Proofs.YtafadpaljanghaaGreatDoor
namespace Go.Proofs.YtafadpaljanghaaGreatDoor
set_option linter.unusedSimpArgs false
open Go.RowKit
set_option linter.unusedVariables false
def scaled (l : List (Nat × Int)) (s : Int) : List (Nat × Int) := l.map fun x => (x.1, x.2 * s)
def atM (l : List (Nat × Int)) (s den m : Int) : List (Nat × Int) := scaled l s ++ [(2, -m * den)]
def FloorRes (l : List (Nat × Int)) (s den : Int) (sg : Int → Int) (e : Ending) : Prop :=
  if 0 ≤ sg 1000000000001 ∨ sg (-1000000000000) < 0 then e = .returned (.tuple #[.int .i64 0, .bool false, .int .i64 7])
  else ∃ m : Int, -1000000000000 ≤ m ∧ m < 1000000000001 ∧ 0 ≤ sg m ∧ sg (m + 1) < 0 ∧ e = .returned (.tuple #[.int .i64 m, .bool (decide (up (atM l s den m) = down (atM l s den m))), .int .i64 0])
def flat (l : List (Nat × Int)) : List Value := l.flatMap fun x => [.int .i64 (x.1 : Int), .int .i64 x.2]
set_option maxHeartbeats 6400000 in
set_option maxRecDepth 100000 in
theorem Floor_any (A : Option Addr) (n c : Nat) (l : List (Nat × Int)) (den s : Int) (sg : Int → Int) (w : World) (hl : TR w A n l) (hok : okT l) (hd1 : 1 ≤ den) (hd2 : den ≤ 1000) (hs1 : 1 ≤ s) (hs2 : s ≤ 10000000)
    (hsg : ∀ m, -1000000000000 ≤ m → m ≤ 1000000000001 → SignTo (atM l s den m) (sg m)) :
    Calls Tryz.prog 56 #[.slice A n c, .int .i64 den, .int .i64 s] w fun e w' => FloorRes l s den sg e ∧ Below w.heap.size w w' := by
  have hn : n ≤ 16 := (by rw [← hl.1]; exact hok.1); have HL : Sl _ := ⟨hl⟩; have HK : Sl _ := ⟨hok⟩; have HS : Sl _ := ⟨hsg⟩; clear hl hok hsg; obtain ⟨i0, hi0, hz0, hz1, hz2⟩ := info_term; have HI : Sl _ := ⟨And.intro hi0 (And.intro hz0 (And.intro hz1 hz2))⟩
  have hmk : ∀ W : World, (Instr.makeSlice 70 (.int .i64 0) (.int .i64 ((n : Int) + 1))).run Tryz.prog W = .ok (.slice (some ⟨W.heap.size, 0, none⟩) 0 (n + 1)) (W.alloc (.cells (madeCells #[.int .i64 0, .int .i64 0] ((n + 1) * 2)) 69)) := fun W => by
    have h := run_make (P := Tryz.prog) W 70 69 i0 (.agg #[.int .i64 0, .int .i64 0]) Tryz.underlying70 hi0 hz0 .i64 .i64 0 ((n : Int) + 1) (by omega) (by omega) (by rw [hz2]; omega) (by omega); rw [hz1] at h; rw [show (Value.agg #[.int .i64 0, .int .i64 0]).cells = #[.int .i64 0, .int .i64 0] from rfl] at h; simpa using h
  clear hi0 hz0 hz1 hz2; have HCK : Sl (∀ W : World, TR W A n l → Calls Tryz.prog 78 #[.slice A n c] W fun e w' => e = .returned (.int .i64 0) ∧ Below W.heap.size W w') := ⟨fun W h => rcheck_ok A n c l W h HK.out⟩; go_enter Tryz.func56, Tryz.ntmps56; have hu0 : Below w.heap.size w ((w.alloc (.cells #[.slice A n c] 70)).alloc (.cells #[.int .i64 den] 2)) := ((Below.refl _ _).alloc (Nat.le_refl _) _).alloc (by simp) _; have B3 := (Blk.new w 70 #[.slice A n c]).alloc (.cells #[.int .i64 den] 2); have B4 := Blk.new (w.alloc (.cells #[.slice A n c] 70)) 2 #[.int .i64 den]; rw [show (w.alloc (.cells #[.slice A n c] 70)).heap.size = w.heap.size + 1 by simp] at B4; go_wp2_with fail; generalize (w.alloc (.cells #[.slice A n c] 70)).alloc (.cells #[.int .i64 den] 2) = w0 at *
  refine (HCK.out _ (HL.out.below hu0)).mono ?_; rintro e w1 ⟨rfl, hb1⟩; have hu1 := hu0.trans (hb1.mono hu0.size); have C3 := B3.below hb1 B3.lt; have C4 := B4.below hb1 B4.lt; have c3 := C3.cell 0; have c4 := C4.cell 0; simp at c3 c4; have er : (w1.alloc (.cells (madeCells #[.int .i64 0, .int .i64 0] ((n + 1) * 2)) 69)).heap.size = w1.heap.size + 1 := (by simp); have D3 := (C3.alloc (.cells (madeCells #[.int .i64 0, .int .i64 0] ((n + 1) * 2)) 69)).alloc (.cells #[.slice (some ⟨w1.heap.size, 0, none⟩) 0 (n + 1)] 70); have D4 := (C4.alloc (.cells (madeCells #[.int .i64 0, .int .i64 0] ((n + 1) * 2)) 69)).alloc (.cells #[.slice (some ⟨w1.heap.size, 0, none⟩) 0 (n + 1)] 70); have D5 := Blk.new (w1.alloc (.cells (madeCells #[.int .i64 0, .int .i64 0] ((n + 1) * 2)) 69)) 70 #[.slice (some ⟨w1.heap.size, 0, none⟩) 0 (n + 1)]; rw [er] at D5; have hu2 := (hu1.alloc hu1.size (.cells (madeCells #[.int .i64 0, .int .i64 0] ((n + 1) * 2)) 69)).alloc (by rw [er]; have := hu1.size; omega) (.cells #[.slice (some ⟨w1.heap.size, 0, none⟩) 0 (n + 1)] 70); have hrow := World.ownsRow_made (e := 69) (size := 2) w1 (madeCells #[.int .i64 0, .int .i64 0] ((n + 1) * 2)) (n + 1) hu1.size (by unfold maxLen; omega) (by simp [madeCells])
  have hrow2 : ((w1.alloc (.cells (madeCells #[.int .i64 0, .int .i64 0] ((n + 1) * 2)) 69)).alloc (.cells #[.slice (some ⟨w1.heap.size, 0, none⟩) 0 (n + 1)] 70)).ownsRow w.heap.size 69 2 (.slice (some ⟨w1.heap.size, 0, none⟩) 0 (n + 1)) 0 [] := by
    refine ⟨hrow.1, ?_⟩; rcases hrow.2 with h | ⟨g, cap, cur, e, hb, hg, h1⟩
    · exact .inl h
    · exact .inr ⟨g, cap, cur, e, hb, (Below.heap_alloc _ _ _ (Blk.lt (t := 69) (cs := cur) hg)).trans hg, h1⟩
  have d3 := D3.cell 0; have d4 := D4.cell 0; simp at d3 d4; have h16 : w.heap.size + 1 < w1.heap.size + 1 := (by have := C4.lt; omega); have h17 : w.heap.size < w1.heap.size + 1 := (by omega); have HW : Sl _ := ⟨And.intro hu2 (And.intro D3 (And.intro D4 (And.intro D5 hrow2)))⟩; clear hu0 hb1 B3 B4 hu1 C3 C4 HCK D3 D4 D5 hu2 hrow hrow2 er; go_wp2_with fail; generalize (w1.alloc (.cells (madeCells #[.int .i64 0, .int .i64 0] ((n + 1) * 2)) 69)).alloc (.cells #[.slice (some ⟨w1.heap.size, 0, none⟩) 0 (n + 1)] 70) = w2 at *
  have hTR2 : TR w2 A n l := HL.out.below HW.out.1; generalize w1.heap.size + 1 = G at *
  generalize w1.heap.size = G1 at *
  go_loopw [40] (fun s40 wr => ∃ (i g c' : Nat), i ≤ n ∧ i ≤ c' ∧ s40 = .int .i64 i ∧ Sl (Below w.heap.size w wr ∧ Blk wr w.heap.size 70 #[.slice A n c] ∧ Blk wr (w.heap.size + 1) 2 #[.int .i64 den] ∧ Blk wr G 70 #[.slice (some ⟨g, 0, none⟩) i c'] ∧ wr.ownsRow w.heap.size 69 2 (.slice (some ⟨g, 0, none⟩) i c') i (flat (scaled (l.take i) s)))) (fun s40 _ => n - (RowKit.intOf s40).toNat)
  case atStart => exact ⟨0, G1, n + 1, Nat.zero_le _, Nat.zero_le _, rfl, ⟨HW.out.1, HW.out.2.1, HW.out.2.2.1, HW.out.2.2.2.1, HW.out.2.2.2.2⟩⟩
  case round =>
    clear HW; obtain ⟨i, g, c', hi, hic, rfl, HR⟩ := hrel
    by_cases hin : i < n
    · obtain ⟨⟨nn, kk⟩, hx⟩ : ∃ x, l[i]? = some x := ⟨_, List.getElem?_eq_getElem (by rw [HL.out.1]; exact hin)⟩; obtain ⟨ad, rfl, hab, e1, e2⟩ := (HL.out.below HR.out.1).cells hx
      have e3 : (ad.add (i * 2)).add 1 = ⟨(ad.add (i * 2)).block, (ad.add (i * 2)).off + 1, none⟩ := by
        generalize ad.add (i * 2) = a1; simp [Addr.add]
      rw [← add_of_add, e3] at e2; have hnn := HK.out.2 _ (List.mem_of_getElem? hx); simp only [] at hnn e1 e2
      have hks : (kk * s).natAbs ≤ 1000000000 * 10000000 := by
        rw [Int.natAbs_mul]; exact Nat.mul_le_mul (by omega) (by omega)
      have hwrp : IntKind.i64.wrap (kk * s) = kk * s := by
        generalize kk * s = y at *
        rw [IntKind.wrap_i64]; omega
      have hG : wr.cell? ⟨G, 0, none⟩ = some (.slice (some ⟨g, 0, none⟩) i c') := HR.out.2.2.2.1.cell 0; have hGl := HR.out.2.2.2.1.lt; obtain ⟨y, hy⟩ : ∃ y, kk * s = y := ⟨_, rfl⟩; have hwrp2 : IntKind.i64.wrap (kk * s) = y := (by rw [hwrp]; exact hy); have HY : Sl _ := ⟨And.intro hy hx⟩; have ha1 := HR.out.1.alloc HR.out.1.size (.cells #[.int .i64 (nn : Int), .int .i64 kk] 69); have ha2 := ha1.alloc ha1.size (.cells #[.int .i64 (nn : Int), .int .i64 y] 69)
      have hof : World.ownsRow ((wr.alloc (.cells #[.int .i64 (nn : Int), .int .i64 kk] 69)).alloc (.cells #[.int .i64 (nn : Int), .int .i64 y] 69)) w.heap.size 69 2 (.slice (some ⟨g, 0, none⟩) i c') i (flat (scaled (l.take i) s)) := by
        have ho := HR.out.2.2.2.2; refine ⟨ho.1, ?_⟩; rcases ho.2 with h | ⟨g', cap, cur, e, hb, hg, h1⟩
        · exact .inl h
        · have hl1 := Blk.lt (t := 69) (cs := cur) hg; exact .inr ⟨g', cap, cur, e, hb, (Below.heap_alloc _ _ _ (by simp; omega)).trans ((Below.heap_alloc _ _ _ hl1).trans hg), h1⟩
      have HA : Sl _ := ⟨And.intro ha1 (And.intro ha2 hof)⟩; have b3 := (HR.out.2.1.alloc (.cells #[.int .i64 (nn : Int), .int .i64 kk] 69)).alloc (.cells #[.int .i64 (nn : Int), .int .i64 y] 69); have b4 := (HR.out.2.2.1.alloc (.cells #[.int .i64 (nn : Int), .int .i64 kk] 69)).alloc (.cells #[.int .i64 (nn : Int), .int .i64 y] 69); have b5 := (HR.out.2.2.2.1.alloc (.cells #[.int .i64 (nn : Int), .int .i64 kk] 69)).alloc (.cells #[.int .i64 (nn : Int), .int .i64 y] 69); have HBS : Sl _ := ⟨And.intro b3 (And.intro b4 b5)⟩
      have HNW : Sl (Reads ((wr.alloc (.cells #[.int .i64 (nn : Int), .int .i64 kk] 69)).alloc (.cells #[.int .i64 (nn : Int), .int .i64 y] 69)) (wr.heap.size + 2) 2 (some ⟨wr.heap.size + 1, 0, none⟩) 1 [.int .i64 (nn : Int), .int .i64 y]) := ⟨by
        refine ⟨rfl, fun _ => ⟨_, rfl, Nat.lt_succ_self _, fun j u hu => ?_⟩⟩; have hb := Blk.new (wr.alloc (.cells #[.int .i64 (nn : Int), .int .i64 kk] 69)) 69 #[.int .i64 (nn : Int), .int .i64 y]; rw [show (wr.alloc (.cells #[.int .i64 (nn : Int), .int .i64 kk] 69)).heap.size = wr.heap.size + 1 by simp] at hb
        have e : (⟨wr.heap.size + 1, 0, none⟩ : Addr).add j = ⟨wr.heap.size + 1, j, none⟩ := by
          unfold Addr.add
          by_cases h : j = 0
          · subst h; simp
          · simp [h]
        rw [e, hb.cell]
        simpa using hu⟩
      have HSZ : Sl (w.heap.size ≤ ((wr.alloc (.cells #[.int .i64 (nn : Int), .int .i64 kk] 69)).alloc (.cells #[.int .i64 (nn : Int), .int .i64 y] 69)).heap.size) := ⟨ha2.size⟩; clear e3 hx hy hwrp hks ha1 ha2 hof b3 b4 b5; go_wp2_with (at_builtin; go_loud (refine wpList_append_any _ rfl (.tmp 44) (.tmp 52) _ rfl w.heap.size 69 i0 _ 2 16 Tryz.underlying70 HI.out.1 HI.out.2.1 HI.out.2.2.1 HI.out.2.2.2 rfl (by decide) (.slice (some ⟨g, 0, none⟩) i c') i _ rfl HA.out.2.2 _ (some ⟨wr.heap.size + 1, 0, none⟩) 1 1 [.int .i64 (nn : Int), .int .i64 y] rfl HNW.out (by simp; exact ⟨rfl, rfl⟩) (by unfold maxLen; omega) (by omega) HSZ.out ?_; intro v1 w5 hown1 hg1 hat1; have b55 := HBS.out.2.2.grown hg1 (fun e => own_blk_ne HA.out.2.2 HBS.out.2.2 (by decide) e.symm); have c55 : w5.cell? ⟨G, 0, none⟩ = some (.slice (some ⟨g, 0, none⟩) i c') := b55.cell 0; have f55 := b55.frozen 0; obtain ⟨g5, c5, rfl, hfb, hfl⟩ := hown1.form (Nat.succ_pos i)))
      have hc5 : i + 1 ≤ c5 := by
        rcases hown1.2 with ⟨e, _⟩ | ⟨g', cap, cur, e, _, _, hh, _⟩
        · cases e
        · injection e with _ _ e; subst e; exact hh
      have hbw := HA.out.2.1.grown hg1 HSZ.out (fun k hk => (HA.out.2.2.lt k hk).1); have b53 := HBS.out.1.grown hg1 (fun e => own_blk_ne HA.out.2.2 HBS.out.1 (by decide) e.symm); have b54 := HBS.out.2.1.grown hg1 (fun e => own_blk_ne HA.out.2.2 HBS.out.2.1 (by decide) e.symm)
      have hne : some G ≠ (Value.slice (some ⟨g5, 0, none⟩) (i + 1) c5).ownBlock := by
        rcases hat1 with h | h
        · rw [h]; exact fun e => own_blk_ne HA.out.2.2 HBS.out.2.2 (by decide) e.symm
        · rw [h]; intro e; injection e with e
          have := HBS.out.2.2.lt; omega
      have hgg : g5 ≠ G := fun e => hne (by rw [e]; rfl)
      have hfin : Sl (Below w.heap.size w (w5.setCell ⟨G, 0, none⟩ (.slice (some ⟨g5, 0, none⟩) (i + 1) c5)) ∧ Blk (w5.setCell ⟨G, 0, none⟩ (.slice (some ⟨g5, 0, none⟩) (i + 1) c5)) w.heap.size 70 #[.slice (some ad) n c] ∧ Blk (w5.setCell ⟨G, 0, none⟩ (.slice (some ⟨g5, 0, none⟩) (i + 1) c5)) (w.heap.size + 1) 2 #[.int .i64 den] ∧ Blk (w5.setCell ⟨G, 0, none⟩ (.slice (some ⟨g5, 0, none⟩) (i + 1) c5)) G 70 #[.slice (some ⟨g5, 0, none⟩) (i + 1) c5] ∧ World.ownsRow (w5.setCell ⟨G, 0, none⟩ (.slice (some ⟨g5, 0, none⟩) (i + 1) c5)) w.heap.size 69 2 (.slice (some ⟨g5, 0, none⟩) (i + 1) c5) (i + 1) (flat (scaled (l.take (i + 1)) s))) := ⟨by
        refine ⟨hbw.setCell (p := ⟨G, 0, none⟩) (by show w.heap.size ≤ G; omega) _, b53.far (p := ⟨G, 0, none⟩) (by show w.heap.size ≠ G; omega) _, b54.far (p := ⟨G, 0, none⟩) (by show w.heap.size + 1 ≠ G; omega) _, b55.set_ 0 _, ?_, ?_⟩
        · have h1 := hown1.1; rw [List.take_add_one, HY.out.2]; show (flat (scaled (l.take i ++ [(nn, kk)]) s)).length = _; unfold flat scaled at h1 ⊢; rw [List.map_append, List.flatMap_append]; simpa using h1
        · rcases hown1.2 with ⟨e, _⟩ | ⟨g', cap, cur, e, hb, hg, hh, h4, h5, h6⟩
          · cases e
          · injection e with e1 e2 e3
            injection e1 with e1
            injection e1 with e1
            subst e1 e3; refine .inr ⟨g5, c5, cur, rfl, hb, (Below.heap_setCell _ _ _ _ hgg).trans hg, hh, h4, h5, ?_⟩; rw [h6, List.take_add_one, HY.out.2]; show _ = flat (scaled (l.take i ++ [(nn, kk)]) s); unfold flat scaled; rw [List.map_append, List.flatMap_append, ← HY.out.1]
            rfl⟩
      exact ⟨⟨i + 1, g5, c5, hin, hc5, by go_num, hfin⟩, by simp [RowKit.intOf]; omega⟩
    · obtain rfl : i = n := (by omega); clear hin HI hmk i0
      have hT0 : TR wr (some ⟨g, 0, none⟩) i (scaled l s) := by
        have ho := HR.out.2.2.2.2; rw [List.take_of_length_le (by rw [HL.out.1]; exact Nat.le_refl _)] at ho; exact ⟨by unfold scaled; rw [List.length_map, HL.out.1], Reads.of_own ho⟩
      have ba := HR.out.2.2.2.1.alloc (.cells #[.func (.func 79) #[] #[.pointer (some ⟨G, 0, none⟩), .pointer (some ⟨w.heap.size, 0, none⟩), .pointer (some ⟨w.heap.size + 1, 0, none⟩)]] 119); have bl := HR.out.2.1.alloc (.cells #[.func (.func 79) #[] #[.pointer (some ⟨G, 0, none⟩), .pointer (some ⟨w.heap.size, 0, none⟩), .pointer (some ⟨w.heap.size + 1, 0, none⟩)]] 119); have bd := HR.out.2.2.1.alloc (.cells #[.func (.func 79) #[] #[.pointer (some ⟨G, 0, none⟩), .pointer (some ⟨w.heap.size, 0, none⟩), .pointer (some ⟨w.heap.size + 1, 0, none⟩)]] 119); have bq := Blk.new wr 119 #[.func (.func 79) #[] #[.pointer (some ⟨G, 0, none⟩), .pointer (some ⟨w.heap.size, 0, none⟩), .pointer (some ⟨w.heap.size + 1, 0, none⟩)]]; have hB3 := HR.out.1.alloc HR.out.1.size (.cells #[.func (.func 79) #[] #[.pointer (some ⟨G, 0, none⟩), .pointer (some ⟨w.heap.size, 0, none⟩), .pointer (some ⟨w.heap.size + 1, 0, none⟩)]] 119); have hT3 := hT0.below ((Below.refl wr.heap.size wr).alloc (Nat.le_refl _) (.cells #[.func (.func 79) #[] #[.pointer (some ⟨G, 0, none⟩), .pointer (some ⟨w.heap.size, 0, none⟩), .pointer (some ⟨w.heap.size + 1, 0, none⟩)]] 119))
      have HFA : Sl (∀ (m : Int) (W : World), -1000000000000 ≤ m → m ≤ 1000000000001 → Below (wr.alloc (.cells #[.func (.func 79) #[] #[.pointer (some ⟨G, 0, none⟩), .pointer (some ⟨w.heap.size, 0, none⟩), .pointer (some ⟨w.heap.size + 1, 0, none⟩)]] 119)).heap.size (wr.alloc (.cells #[.func (.func 79) #[] #[.pointer (some ⟨G, 0, none⟩), .pointer (some ⟨w.heap.size, 0, none⟩), .pointer (some ⟨w.heap.size + 1, 0, none⟩)]] 119)) W → Calls Tryz.prog 79 #[.int .i64 m, .pointer (some ⟨G, 0, none⟩), .pointer (some ⟨w.heap.size, 0, none⟩), .pointer (some ⟨w.heap.size + 1, 0, none⟩)] W fun e w' => (∃ A' c', e = .returned (.slice A' (i + 1) c') ∧ TR w' A' (i + 1) (atM l s den m)) ∧ Below W.heap.size W w') := ⟨fun m W h1 h2 hb => by
        have x1 := ba.below hb ba.lt; have x2 := bl.below hb bl.lt; have x3 := bd.below hb bd.lt
        have hmd : (m * den).natAbs ≤ 1000000000001 * 1000 := by
          rw [Int.natAbs_mul]; exact Nat.mul_le_mul (by omega) (by omega)
        rw [Int.natAbs_mul] at hmd; have hmd2 : ((-m) * den).natAbs ≤ 1000000000001 * 1000 := (by rw [Int.natAbs_mul, Int.natAbs_neg]; exact hmd)
        have hmd3 : -1000000000000000000 ≤ (-m) * den ∧ (-m) * den ≤ 1000000000000000000 := by
          generalize (-m) * den = y at *
          omega
        exact at_any m den ⟨G, 0, none⟩ ⟨w.heap.size, 0, none⟩ ⟨w.heap.size + 1, 0, none⟩ ⟨g, 0, none⟩ A i c' c (scaled l s) W (x1.cell 0) (x2.cell 0) (x3.cell 0) x1.lt x2.lt x3.lt (hT3.below hb) hic (by omega) (by omega) (by omega) hmd3.1 hmd3.2⟩
      have HFI : Sl (∀ (m : Int) (W : World), -1000000000000 ≤ m → m ≤ 1000000000001 → Below (wr.alloc (.cells #[.func (.func 79) #[] #[.pointer (some ⟨G, 0, none⟩), .pointer (some ⟨w.heap.size, 0, none⟩), .pointer (some ⟨w.heap.size + 1, 0, none⟩)]] 119)).heap.size (wr.alloc (.cells #[.func (.func 79) #[] #[.pointer (some ⟨G, 0, none⟩), .pointer (some ⟨w.heap.size, 0, none⟩), .pointer (some ⟨w.heap.size + 1, 0, none⟩)]] 119)) W → Calls Tryz.prog 80 #[.int .i64 m, .pointer (some ⟨wr.heap.size, 0, none⟩)] W fun e w' => e = .returned (.bool (decide (0 ≤ sg m))) ∧ Below W.heap.size W w') := ⟨fun m W h1 h2 hb => by
        have x0 := bq.below hb bq.lt; have x1 := ba.below hb ba.lt; have x2 := bl.below hb bl.lt; have x3 := bd.below hb bd.lt
        have hmd2 : ((-m) * den).natAbs ≤ 1000000000001 * 1000 := by
          rw [Int.natAbs_mul, Int.natAbs_neg]; exact Nat.mul_le_mul (by omega) (by omega)
        have hmd3 : -1000000000000000000 ≤ (-m) * den ∧ (-m) * den ≤ 1000000000000000000 := by
          generalize (-m) * den = y at *
          omega
        exact is_any m den (sg m) ⟨wr.heap.size, 0, none⟩ ⟨G, 0, none⟩ ⟨w.heap.size, 0, none⟩ ⟨w.heap.size + 1, 0, none⟩ ⟨g, 0, none⟩ A i c' c (scaled l s) W (x0.cell 0) (x1.cell 0) (x2.cell 0) (x3.cell 0) x1.lt x2.lt x3.lt (hT3.below hb) hic (by omega) (by omega) (by omega) hmd3.1 hmd3.2 (HS.out m h1 h2)⟩
      have hrun1 : ∀ (args : Array Value) (w : World), (callFunc 79 args).run Tryz.prog w = .ok (.enter 79 args) w := fun a w => by go_simp
      have hrun2 : ∀ (args : Array Value) (w : World), (callFunc 80 args).run Tryz.prog w = .ok (.enter 80 args) w := fun a w => by go_simp
      have HQ : Sl _ := ⟨And.intro hB3 bq⟩; clear ba bl bd bq hB3 hT3 hT0 HR HS; have c1 := HFI.out 1000000000001 _ (by decide) (by decide) (Below.refl _ _)
      by_cases h1 : 0 ≤ sg 1000000000001
      · rw [decide_eq_true h1] at c1; have HC1 : Sl _ := ⟨c1⟩; have H1 : Sl _ := ⟨h1⟩; clear c1 h1; go_wp2_with fail; refine HC1.out.mono ?_; rintro e w5 ⟨rfl, hb5⟩; go_wp2_with fail
        go_ret3
        exact ⟨by unfold FloorRes; rw [if_pos (.inl H1.out)]; rfl, HQ.out.1.trans (hb5.mono HQ.out.1.size)⟩
      · rw [decide_eq_false h1] at c1; have HC1 : Sl _ := ⟨c1⟩; clear c1
        by_cases h2 : sg (-1000000000000) < 0
        · have c2 := fun W hb => HFI.out (-1000000000000) W (by decide) (by decide) hb
          rw [decide_eq_false (by omega)] at c2; have HC2 : Sl _ := ⟨c2⟩; have H2 : Sl _ := ⟨h2⟩; clear c2 h1 h2; go_wp2_with fail; refine HC1.out.mono ?_; rintro e w5 ⟨rfl, hb5⟩; go_wp2_with fail; refine (HC2.out w5 hb5).mono ?_; rintro e w6 ⟨rfl, hb6⟩; go_wp2_with fail
          go_ret3
          exact ⟨by unfold FloorRes; rw [if_pos (.inr H2.out)]; rfl, (HQ.out.1.trans (hb5.mono HQ.out.1.size)).trans (hb6.mono (Nat.le_trans HQ.out.1.size hb5.size))⟩
        · have c2 := fun W hb => HFI.out (-1000000000000) W (by decide) (by decide) hb
          rw [decide_eq_true (by omega)] at c2; have HC2 : Sl _ := ⟨c2⟩; have H2 : Sl _ := ⟨And.intro h1 h2⟩; clear c2 h1 h2; go_wp2_with fail; refine HC1.out.mono ?_; rintro e w5 ⟨rfl, hb5⟩; go_wp2_with fail; refine (HC2.out w5 hb5).mono ?_; rintro e w6 ⟨rfl, hb6⟩; have hb7 := hb5.trans (hb6.mono hb5.size); go_wp2_with fail; refine (greatest_any (.pointer (some ⟨wr.heap.size, 0, none⟩)) (fun m => decide (0 ≤ sg m)) (-1000000000000) 1000000000001 w6 (by decide) (by decide) (by decide) (fun m W hm1 hm2 hbW => HFI.out m W (by omega) (by omega) (hb7.trans (hbW.mono hb7.size)))).mono ?_; rintro e w7 ⟨⟨m, rfl, hm1, hm2, hm3, hm4⟩, hb8⟩; have hb9 := hb7.trans (hb8.mono hb7.size)
          have hpos : 0 ≤ sg m := by
            rcases hm3 with h | h
            · rw [h]; have := H2.out.2; omega
            · simpa using h
          have hneg : sg (m + 1) < 0 := by
            rcases hm4 with h | h
            · rw [h]; have := H2.out.1; omega
            · have := of_decide_eq_false h; omega
          have cq := (HQ.out.2.below hb9 HQ.out.2.lt).cell 0; simp at cq; have HM : Sl _ := ⟨And.intro hpos (And.intro hneg (And.intro hm1 hm2))⟩
          have hoe : okE (atM l s den m) := by
            refine ⟨by unfold atM scaled; simp; rw [HL.out.1]; omega, fun x hx => ?_⟩; unfold atM at hx; rw [List.mem_append] at hx; rcases hx with hx | hx
            · unfold scaled at hx; obtain ⟨y, hy, rfl⟩ := List.mem_map.1 hx; have hk := HK.out.2 y hy; refine ⟨hk.1, hk.2.1, ?_⟩; show (y.2 * s).natAbs ≤ _; rw [Int.natAbs_mul]; have h5 : y.2.natAbs * s.natAbs ≤ 1000000000 * 10000000 := Nat.mul_le_mul (by omega) (by omega); omega
            · simp only [List.mem_singleton] at hx; subst hx; refine ⟨by show 0 < 2; decide, by show 2 ≤ 1000000000000; decide, ?_⟩; show (-m * den).natAbs ≤ _; rw [Int.natAbs_mul, Int.natAbs_neg]; have h5 : m.natAbs * den.natAbs ≤ 1000000000001 * 1000 := Nat.mul_le_mul (by omega) (by omega); omega
          have HOE : Sl _ := ⟨hoe⟩; have hA := HFA.out m w7 (by omega) (by omega) hb9; have HAT : Sl _ := ⟨hA⟩; clear hoe hA hpos hneg hm1 hm2 hm3 hm4; go_wp2_with fail; refine HAT.out.mono ?_; rintro e w8 ⟨⟨A8, c8, rfl, hT8⟩, hb10⟩; have hO := one_any A8 (i + 1) c8 _ w8 hT8 HOE.out; have HON : Sl _ := ⟨hO⟩; clear hO hT8; obtain ⟨q, hq⟩ : ∃ q, decide (up (atM l s den m) = down (atM l s den m)) = q := ⟨_, rfl⟩; rw [hq] at HON; have HQQ : Sl _ := ⟨hq⟩; clear hq; go_wp2_with fail; refine HON.out.mono ?_; rintro e w9 ⟨rfl, hb11⟩; go_wp2_with fail
          go_ret3
          refine ⟨?_, ?_⟩
          · unfold FloorRes; rw [if_neg (by have := H2.out; omega)]; exact ⟨m, HM.out.2.2.1, HM.out.2.2.2, HM.out.1, HM.out.2.1, by rw [HQQ.out]; rfl⟩
          · have k1 := HQ.out.1.trans (hb9.mono HQ.out.1.size); have k2 := k1.trans (hb10.mono k1.size); exact k2.trans (hb11.mono k2.size)
end Go.Proofs.YtafadpaljanghaaGreatDoor
namespace Go.Proofs.YtafadpaljanghaaGreatDoor
set_option linter.unusedSimpArgs false
open Go.RowKit
set_option linter.unusedVariables false
def Knows (l : List (Nat × Int)) (s : Int) : Prop := ∀ (A : Option Addr) (n c : Nat) (W : World), TR W A n l → Calls Tryz.prog 105 #[.slice A n c] W fun e w' => e = .returned (.tuple #[.int .i64 s, .bool true]) ∧ Below W.heap.size W w'
set_option maxHeartbeats 800000 in
theorem sign_known (l : List (Nat × Int)) (s : Int) (hk : Knows l s) : SignTo l s := by
  intro A n c w hl; have HG : Sl _ := ⟨hk A n c w hl⟩; clear hk hl; go_enter Tryz.func81, Tryz.ntmps81; go_wp2_with fail; refine HG.out.mono ?_; rintro e w1 ⟨rfl, hb⟩; go_wp2_with fail; go_ret; exact ⟨rfl, hb⟩
end Go.Proofs.YtafadpaljanghaaGreatDoor
namespace Go.Proofs.YtafadpaljanghaaGreatDoor
set_option linter.unusedSimpArgs false
open Go.RowKit
set_option linter.unusedVariables false
set_option maxHeartbeats 800000 in
theorem wgcd_any (a b : Nat) (w : World) (ha : a < 4000000000000000000) (hb : b < 4000000000000000000) :
    Calls Tryz.prog 76 #[.int .i64 a, .int .i64 b] w fun e w' => e = .returned (.int .i64 (Nat.gcd a b)) ∧ ∃ m, w' = w.drewN m := by
  go_enter Tryz.func76, Tryz.ntmps76; go_wp2_with fail
  go_loopw [0, 1] (fun s0 s1 wr => ∃ (x y : Nat), s0 = .int .i64 x ∧ s1 = .int .i64 y ∧ x < 4000000000000000000 ∧ y < 4000000000000000000 ∧ Sl (Nat.gcd x y = Nat.gcd a b ∧ ∃ m, wr = w.drewN m)) (fun _ s1 _ => (RowKit.intOf s1).toNat)
  case atStart => exact ⟨a, b, rfl, rfl, ha, hb, ⟨rfl, 0, rfl⟩⟩
  case round =>
    clear ha hb; obtain ⟨x, y, rfl, rfl, hx, hy, HG⟩ := hrel; rcases Nat.eq_zero_or_pos y with h0 | h0
    · subst h0; go_wp2_with fail; go_ret; obtain ⟨h1, m, h2⟩ := HG.out; rw [Nat.gcd_zero_right] at h1; exact ⟨by rw [← h1]; rfl, m, h2⟩
    · have hne : ((y : Int) == 0) = false := (by rw [beq_eq_false_iff_ne]; omega); have hmod : (x : Int).tmod (y : Int) = ((x % y : Nat) : Int) := (by rw [Int.tmod_eq_emod_of_nonneg (by omega)]; omega); have hlt : x % y < y := Nat.mod_lt _ h0; have HGN : Sl (Nat.gcd y (x % y) = Nat.gcd a b) := ⟨by rw [← HG.out.1, Nat.gcd_comm y, ← Nat.gcd_rec, Nat.gcd_comm]⟩; generalize x % y = r at *
      go_wp2_with fail
      go_quiet (fail)
      go_wp2_with fail; obtain ⟨m, hm⟩ := HG.out.2; refine ⟨⟨y, r, rfl, rfl, hy, by omega, ⟨HGN.out, m + nq, by rw [hm]; simp⟩⟩, by simp [RowKit.intOf]; omega⟩
end Go.Proofs.YtafadpaljanghaaGreatDoor
namespace Go.Proofs.YtafadpaljanghaaGreatDoor
set_option linter.unusedSimpArgs false
open Go.RowKit
set_option linter.unusedVariables false
set_option maxHeartbeats 1600000 in
set_option maxRecDepth 100000 in
theorem feet83_valid (w : World) : Calls Tryz.prog 54 #[.agg #[.int .i64 8, .int .i64 3]] w fun e w' => e = .returned (.bool true) ∧ Below w.heap.size w w' := by
  have hu : Below w.heap.size w (w.alloc (.cells #[.int .i64 8, .int .i64 3] 23)) := (Below.refl _ _).alloc (Nat.le_refl _) _; have hg := fun W : World => wgcd_any 8 3 W (by decide) (by decide)
  have e83 : Nat.gcd 8 3 = 1 := (by decide); rw [e83] at hg; have HG : Sl (∀ W : World, Calls Tryz.prog 76 #[.int .i64 8, .int .i64 3] W fun e w' => e = .returned (.int .i64 1) ∧ ∃ m, w' = W.drewN m) := ⟨hg⟩; clear hg e83; go_enter Tryz.func54, Tryz.ntmps54; go_wp2_with fail; refine (HG.out _).mono ?_; rintro e w1 ⟨rfl, m, rfl⟩; go_wp2_with fail; go_ret; exact ⟨rfl, below_drewN hu m⟩
set_option maxHeartbeats 1600000 in
set_option maxRecDepth 100000 in
theorem feet83_any (w : World) : Calls Tryz.prog 24 #[.agg #[.int .i64 8, .int .i64 3]] w fun e w' => (∃ s, e = .returned (.tuple #[.string s, .int .i64 0])) ∧ Below w.heap.size w w' := by
  have hu : Below w.heap.size w (w.alloc (.cells #[.int .i64 8, .int .i64 3] 23)) := (Below.refl _ _).alloc (Nat.le_refl _) _; have X0 := Blk.new w 23 #[.int .i64 8, .int .i64 3]; go_enter Tryz.func24, Tryz.ntmps24; go_wp2_with fail; generalize w.alloc (.cells #[.int .i64 8, .int .i64 3] 23) = w0 at *
  refine (feet83_valid w0).mono ?_; rintro e w1 ⟨rfl, hb⟩; have u1 := hu.trans (hb.mono hu.size); have X1 := X0.below hb X0.lt; have x0 := X1.cell 0; have x1 := X1.cell 1; simp at x0 x1; clear hu hb X0; go_wp2_with fail
  go_quiet (fail)
  have u2 := below_drewN u1 nq; have X2 : Blk (w1.drewN nq) w.heap.size _ _ := X1.drewN nq; clear u1 X1 x0 x1; generalize w1.drewN nq = w2 at *
  have x0 := X2.cell 0; have x1 := X2.cell 1; simp at x0 x1; have hI2 := fun W : World => Tryz.strconv_Itoa_small 2 (by decide) W
  have hI3 := fun W : World => Tryz.strconv_Itoa_small 3 (by decide) W
  have e2 : Lib.decDigits 2 = [50] := (by rw [Lib.decDigits, dif_pos (by decide)]; rfl); have e3 : Lib.decDigits 3 = [51] := (by rw [Lib.decDigits, dif_pos (by decide)]; rfl); rw [e2] at hI2; rw [e3] at hI3; have HI2 : Sl (∀ W : World, Calls Tryz.prog 55 #[.int .i64 2] W fun e w' => e = .returned (.string ⟨#[50]⟩) ∧ w' = W) := ⟨hI2⟩; have HI3 : Sl (∀ W : World, Calls Tryz.prog 55 #[.int .i64 3] W fun e w' => e = .returned (.string ⟨#[51]⟩) ∧ w' = W) := ⟨hI3⟩; clear hI2 hI3 e2 e3; go_wp2_with fail; have hd2 : RowKit.Below w.heap.size w w2.drew := below_drewN u2 1; have xx1 : w2.drew.cell? ⟨w.heap.size, 1, none⟩ = some (.int .i64 3) := x1
  go_region_with (first
    | (go_at_call 55; (with_reducible refine (HI2.out _).mono ?_); rintro e w3 ⟨rfl, rfl⟩)
    | (go_at_call 55; (with_reducible refine (HI3.out _).mono ?_); rintro e w4 ⟨rfl, rfl⟩)
    | fail)
  all_goals (
    clear x0 x1 X2 u2; generalize w2.drew = w5 at *
    go_wp2_with fail; refine (HI2.out _).mono ?_; rintro e w6 ⟨rfl, rfl⟩; go_wp2_with fail; go_ret2
    exact ⟨⟨_, rfl⟩, hd2⟩)
end Go.Proofs.YtafadpaljanghaaGreatDoor
namespace Go.Proofs.YtafadpaljanghaaGreatDoor
set_option linter.unusedSimpArgs false
open Go.RowKit
set_option linter.unusedVariables false
theorem QK_24 : QK 24 := fun W => by
  have h := quick_any 24 4 false W (by decide) (by decide) (by decide +kernel) (by decide) (by decide +kernel) (by decide +kernel); have e : qkc false 24 4 = qk 24 := (by decide +kernel); rw [e] at h; exact h
theorem QK_8 : QK 8 := fun W => by
  have h := quick_any 8 3 true W (by decide) (by decide) (by decide +kernel) (by decide) (by decide +kernel) (by decide +kernel); have e : qkc true 8 3 = qk 8 := (by decide +kernel); rw [e] at h; exact h
theorem QK_2 : QK 2 := fun W => by
  have h := quick_any 2 1 true W (by decide) (by decide) (by decide +kernel) (by decide) (by decide +kernel) (by decide +kernel); have e : qkc true 2 1 = qk 2 := (by decide +kernel); rw [e] at h; exact h
theorem good_83 (k : Int) (hk : k.natAbs < 1000000000000000000) : Good [(24, 24), (8, -24), (2, k)] := by
  refine ⟨fun x hx => ?_, fun x hx => ?_, fun x hx => ?_⟩ <;> (simp only [List.mem_cons, List.not_mem_nil, or_false] at hx; rcases hx with rfl | rfl | rfl)
  · exact QK_24
  · exact QK_8
  · exact QK_2
  · decide
  · decide
  · exact hk
  · exact ⟨by show (qk 24).1 < _; rw [qk_24]; decide, by show (qk 24).2 < _; rw [qk_24]; decide⟩
  · exact ⟨by show (qk 8).1 < _; rw [qk_8]; decide, by show (qk 8).2 < _; rw [qk_8]; decide⟩
  · exact ⟨by show (qk 2).1 < _; rw [qk_2]; decide, by show (qk 2).2 < _; rw [qk_2]; decide⟩
theorem knows_83 (k : Int) (hk : k.natAbs < 1000000000000000000) : Knows [(24, 24), (8, -24), (2, k)] (if -38 ≤ k then 1 else -1) := fun A n c W hT => by
  have hn : n = 3 := hT.1.symm; have h := guess_any A n c _ W hT (by omega) (good_83 k hk); rw [guess_83] at h; exact h
theorem floor_83 (A : Option Addr) (c : Nat) (w : World) (hl : TR w A 2 [(24, 1), (8, -1)]) :
    Calls Tryz.prog 56 #[.slice A 2 c, .int .i64 1, .int .i64 24] w fun e w' => (∃ b : Bool, e = .returned (.tuple #[.int .i64 38, .bool b, .int .i64 0])) ∧ Below w.heap.size w w' := by
  refine (Floor_any A 2 c [(24, 1), (8, -1)] 1 24 (fun m => if m ≤ 38 then 1 else -1) w hl ⟨by decide, fun x hx => ?_⟩ (by decide) (by decide) (by decide) (by decide) (fun m h1 h2 => ?_)).mono fun e w' h => ⟨?_, h.2⟩
  · simp only [List.mem_cons, List.not_mem_nil, or_false] at hx; rcases hx with rfl | rfl <;> decide
  · have e1 : atM [(24, 1), (8, -1)] 24 1 m = [(24, 24), (8, -24), (2, -m)] := by
      show [(24, (1 : Int) * 24), (8, -1 * 24), (2, -m * 1)] = _; rw [Int.mul_one]; rfl
    rw [e1]; have h3 := sign_known _ _ (knows_83 (-m) (by omega))
    have e2 : (if -38 ≤ -m then (1 : Int) else -1) = if m ≤ 38 then 1 else -1 := by
      by_cases h : m ≤ 38
      · rw [if_pos h, if_pos (by omega)]
      · rw [if_neg h, if_neg (by omega)]
    rw [e2] at h3; exact h3
  · have h1 := h.1; unfold FloorRes at h1; rw [if_neg (by decide)] at h1; obtain ⟨m, _, _, hp, hn, rfl⟩ := h1
    have e38 : m = 38 := by
      have a1 : m ≤ 38 := by
        by_cases h : m ≤ 38
        · exact h
        · simp [h] at hp
      have a2 : ¬ m + 1 ≤ 38 := by
        intro h; simp [h] at hn
      omega
    rw [e38]; exact ⟨_, rfl⟩
set_option maxHeartbeats 1600000 in
set_option maxRecDepth 100000 in
theorem semi83_any (w : World) : Calls Tryz.prog 25 #[.agg #[.int .i64 8, .int .i64 3]] w fun e w' => e = .returned (.int .i64 19) ∧ Below w.heap.size w w' := by
  have X0 := Blk.new w 23 #[.int .i64 8, .int .i64 3]; have hu := (Below.refl w.heap.size w).alloc (Nat.le_refl _) (.cells #[.int .i64 8, .int .i64 3] 23)
  have hT : Sl (TR ((w.alloc (.cells #[.int .i64 8, .int .i64 3] 23)).alloc (.cells #[.int .i64 24, .int .i64 1, .int .i64 8, .int .i64 (-1)] 69)) (some ⟨w.heap.size + 1, 0, none⟩) 2 [(24, 1), (8, -1)]) := ⟨by
    refine ⟨rfl, rfl, fun _ => ⟨_, rfl, by simp, fun j u hj => ?_⟩⟩; have hb := Blk.new (w.alloc (.cells #[.int .i64 8, .int .i64 3] 23)) 69 #[.int .i64 24, .int .i64 1, .int .i64 8, .int .i64 (-1)]; rw [show (w.alloc (.cells #[.int .i64 8, .int .i64 3] 23)).heap.size = w.heap.size + 1 by simp] at hb
    have e : (⟨w.heap.size + 1, 0, none⟩ : Addr).add j = ⟨w.heap.size + 1, j, none⟩ := by
      unfold Addr.add
      by_cases h : j = 0
      · subst h; simp
      · simp [h]
    rw [e, hb.cell]
    simpa using hj⟩
  have HU : Sl _ := ⟨hu.alloc (by simp) (.cells #[.int .i64 24, .int .i64 1, .int .i64 8, .int .i64 (-1)] 69)⟩; have HF : Sl _ := ⟨floor_83 _ 2 _ hT.out⟩; clear hu X0; go_enter Tryz.func25, Tryz.ntmps25; go_wp2_with fail; refine HF.out.mono ?_; rintro e w1 ⟨⟨b, rfl⟩, hb⟩; go_wp2_with fail; go_ret; exact ⟨rfl, HU.out.trans (hb.mono HU.out.size)⟩
theorem Semi83_any (w : World) : Calls Tryz.prog 8 #[.agg #[.int .i64 8, .int .i64 3]] w fun e w' => e = .returned (.tuple #[.int .i64 19, .int .i64 0]) ∧ Below w.heap.size w w' := by
  have X0 := Blk.new w 23 #[.int .i64 8, .int .i64 3]; have hu := (Below.refl w.heap.size w).alloc (Nat.le_refl _) (.cells #[.int .i64 8, .int .i64 3] 23); go_enter Tryz.func8, Tryz.ntmps8; go_wp2_with fail; generalize w.alloc (.cells #[.int .i64 8, .int .i64 3] 23) = w0 at *
  refine (feet83_any w0).mono ?_; rintro e w1 ⟨⟨s, rfl⟩, hb⟩; have X1 := X0.below hb X0.lt; have x0 := X1.cell 0; have x1 := X1.cell 1; simp at x0 x1; go_wp2_with fail; refine (semi83_any w1).mono ?_; rintro e w2 ⟨rfl, hb2⟩; go_wp2_with fail; go_ret2; have h1 := hu.trans (hb.mono hu.size); exact ⟨rfl, h1.trans (hb2.mono h1.size)⟩
end Go.Proofs.YtafadpaljanghaaGreatDoor
namespace Go.Proofs.YtafadpaljanghaaGreatDoor
set_option linter.unusedSimpArgs false
open Go.RowKit
set_option linter.unusedVariables false
theorem II.lit (w : World) (l : List Int) (t : TypeId) : II (w.alloc (.cells (l.map iv).toArray t)) (some ⟨w.heap.size, 0, none⟩) l.length l := II.of_blk (Blk.new w t _)
set_option maxHeartbeats 6400000 in
set_option maxRecDepth 100000 in
theorem awake11_any (w : World) : Calls Tryz.prog 12 #[] w fun e w' => e = .returned (.bool true) ∧ Below w.heap.size w w' := by
  go_enter Tryz.func12, Tryz.ntmps12; go_wp2_with fail; refine (Example_any w).mono ?_; rintro e w1 ⟨rfl, hM, hb⟩; have HU : Sl (Below w.heap.size w w1) := ⟨hb⟩; have HRO : Sl _ := ⟨Row_any 36 96 _ 3 3 _ 60 w1 hM ⟨by decide, by decide⟩ ⟨by decide, by decide⟩⟩; clear hM hb; go_wp2_with fail; refine HRO.out.mono ?_; rintro e w2 ⟨⟨A, c, he, hii⟩, hb⟩; rw [ex_rerr, ex_rows] at he; rw [ex_rows] at hii; subst he; have HR : Sl (II w2 A 3 [79, 84, 91]) := ⟨hii⟩; replace HU : Sl (Below w.heap.size w w2) := ⟨HU.out.trans (hb.mono HU.out.size)⟩; clear hii hb HRO; go_wp2_with fail; refine (Semi83_any w2).mono ?_; rintro e w3 ⟨rfl, hb⟩; replace HU : Sl (Below w.heap.size w w3) := ⟨HU.out.trans (hb.mono HU.out.size)⟩; replace HR : Sl (II w3 A 3 [79, 84, 91]) := ⟨HR.out.below hb⟩; clear hb; have hl : II (w3.alloc (.cells #[.int .i64 24, .int .i64 31, .int .i64 36] 3)) (some ⟨w3.heap.size, 0, none⟩) 3 [24, 31, 36] := II.lit w3 [24, 31, 36] 3; have hu : Below w3.heap.size w3 (w3.alloc (.cells #[.int .i64 24, .int .i64 31, .int .i64 36] 3)) := (Below.refl _ _).alloc (Nat.le_refl _) _; have HPL : Sl _ := ⟨planEx_any _ 3 _ hl ⟨Nat.le_refl _, by decide⟩⟩; replace HU : Sl (Below w.heap.size w (w3.alloc (.cells #[.int .i64 24, .int .i64 31, .int .i64 36] 3))) := ⟨HU.out.trans (hu.mono HU.out.size)⟩; replace HR : Sl (II (w3.alloc (.cells #[.int .i64 24, .int .i64 31, .int .i64 36] 3)) A 3 [79, 84, 91]) := ⟨HR.out.below hu⟩; clear hl hu; go_wp2_with fail; refine HPL.out.mono ?_; rintro e w4 ⟨⟨g, cap, A1, c1, A2, c2, rfl, hmx⟩, hb⟩; replace HU : Sl (Below w.heap.size w w4) := ⟨HU.out.trans (hb.mono HU.out.size)⟩; replace HR : Sl (II w4 A 3 [79, 84, 91]) := ⟨HR.out.below hb⟩; have hu : Below w4.heap.size w4 (w4.alloc (.cells #[.int .i64 36, .int .i64 96, .slice (some ⟨g, 0, none⟩) 2 cap] 34)) := (Below.refl _ _).alloc (Nat.le_refl _) _; have X5 : Sl _ := ⟨Blk.new w4 34 #[.int .i64 36, .int .i64 96, .slice (some ⟨g, 0, none⟩) 2 cap]⟩; have HMX : Sl _ := ⟨hmx.below hu⟩; replace HR : Sl (II (w4.alloc (.cells #[.int .i64 36, .int .i64 96, .slice (some ⟨g, 0, none⟩) 2 cap] 34)) A 3 [79, 84, 91]) := ⟨HR.out.below hu⟩; replace HU : Sl (Below w.heap.size w (w4.alloc (.cells #[.int .i64 36, .int .i64 96, .slice (some ⟨g, 0, none⟩) 2 cap] 34))) := ⟨HU.out.trans (hu.mono HU.out.size)⟩; clear hmx hb hu HPL; go_wp2_with fail; have s5 : (w4.alloc (.cells #[.int .i64 36, .int .i64 96, .slice (some ⟨g, 0, none⟩) 2 cap] 34)).heap.size = w4.heap.size + 1 := (by simp); generalize w4.alloc (.cells #[.int .i64 36, .int .i64 96, .slice (some ⟨g, 0, none⟩) 2 cap] 34) = w5 at *
  have hl := II.lit w5 [79, 84, 91] 3; rw [s5] at hl; have hu : Below w5.heap.size w5 (w5.alloc (.cells #[.int .i64 79, .int .i64 84, .int .i64 91] 3)) := (Below.refl _ _).alloc (Nat.le_refl _) _; have HSI : Sl _ := ⟨sameInts11_any A (some ⟨w4.heap.size + 1, 0, none⟩) 3 c 3 [79, 84, 91] (w5.alloc (.cells #[.int .i64 79, .int .i64 84, .int .i64 91] 3)) (HR.out.below hu) hl (by decide)⟩; replace HU : Sl (Below w.heap.size w (w5.alloc (.cells #[.int .i64 79, .int .i64 84, .int .i64 91] 3))) := ⟨HU.out.trans (hu.mono HU.out.size)⟩; replace X5 : Sl (Blk (w5.alloc (.cells #[.int .i64 79, .int .i64 84, .int .i64 91] 3)) w4.heap.size _ _) := ⟨X5.out.below hu X5.out.lt⟩; replace HMX : Sl (MX (w5.alloc (.cells #[.int .i64 79, .int .i64 84, .int .i64 91] 3)) (some ⟨g, 0, none⟩) 2 _) := ⟨HMX.out.below hu⟩; clear hl hu s5 HR; refine HSI.out.mono ?_; rintro e w6 ⟨rfl, m, rfl⟩; clear HSI; replace X5 : Sl (Blk ((w5.alloc (.cells #[.int .i64 79, .int .i64 84, .int .i64 91] 3)).drewN m) w4.heap.size _ _) := ⟨X5.out.drewN m⟩; replace HMX : Sl (MX ((w5.alloc (.cells #[.int .i64 79, .int .i64 84, .int .i64 91] 3)).drewN m) (some ⟨g, 0, none⟩) 2 _) := ⟨HMX.out.below (below_drewN (Below.refl _ _) m)⟩; replace HU : Sl (Below w.heap.size w ((w5.alloc (.cells #[.int .i64 79, .int .i64 84, .int .i64 91] 3)).drewN m)) := ⟨below_drewN HU.out m⟩; generalize (w5.alloc (.cells #[.int .i64 79, .int .i64 84, .int .i64 91] 3)).drewN m = w7 at *
  have x2 := X5.out.cell 2; simp at x2; obtain ⟨ad, e, _, y2, y3⟩ := HMX.out.cells (i := 1) rfl; injection e with e
  subst e; have y2' : w7.cell? ⟨g, 2, none⟩ = some (.int .i64 85) := (by simpa [Addr.add] using y2); have y3' : w7.cell? ⟨g, 3, none⟩ = some (.slice A2 3 c2) := (by simpa [Addr.add] using y3); have HII : Sl (II w7 A2 3 [19, 24, 24]) := ⟨HMX.out.rk ⟨85, A2, 3, c2, [19, 24, 24]⟩ (by simp)⟩; have hl := II.lit w7 [19, 24, 24] 3; have hu : Below w7.heap.size w7 (w7.alloc (.cells #[.int .i64 19, .int .i64 24, .int .i64 24] 3)) := (Below.refl _ _).alloc (Nat.le_refl _) _; have HSI : Sl _ := ⟨sameInts11_any A2 (some ⟨w7.heap.size, 0, none⟩) 3 c2 3 [19, 24, 24] (w7.alloc (.cells #[.int .i64 19, .int .i64 24, .int .i64 24] 3)) (HII.out.below hu) hl (by decide)⟩; replace HU : Sl (Below w.heap.size w (w7.alloc (.cells #[.int .i64 19, .int .i64 24, .int .i64 24] 3))) := ⟨HU.out.trans (hu.mono HU.out.size)⟩; clear hl hu HII HMX X5 y2 y3; go_wp2_with fail; refine HSI.out.mono ?_; rintro e w8 ⟨rfl, m2, rfl⟩; go_wp2_with fail; go_ret; exact ⟨rfl, below_drewN HU.out m2⟩
end Go.Proofs.YtafadpaljanghaaGreatDoor
namespace Go.Proofs.YtafadpaljanghaaGreatDoor
set_option linter.unusedSimpArgs false
open Go.RowKit
set_option linter.unusedVariables false
theorem flatS_get {α : Type} (f : α → List Value) (sz : Nat) (hf : ∀ p, (f p).length = sz) : ∀ (l : List α) (i : Nat) (p : α) (t : Nat), l[i]? = some p → t < sz → (l.flatMap f)[i * sz + t]? = (f p)[t]?
  | [], i, p, t, h, _ => by cases h
  | y :: l, 0, p, t, h, ht => by
    have : y = p := (by simpa using h); subst this; rw [Nat.zero_mul, Nat.zero_add, List.flatMap_cons, List.getElem?_append_left (by rw [hf]; exact ht)]
  | y :: l, i+1, p, t, h, ht => by
    have h1 : l[i]? = some p := (by simpa using h); rw [List.flatMap_cons, List.getElem?_append_right (by rw [hf, Nat.succ_mul]; omega), hf, show (i + 1) * sz + t - sz = i * sz + t by rw [Nat.succ_mul]; omega]; exact flatS_get f sz hf l i p t h1 ht
theorem flatS_cells {w : World} {B sz n : Nat} {A : Option Addr} {α : Type} {f : α → List Value} {l : List α} (h : Reads w B sz A n (l.flatMap f)) (hf : ∀ p, (f p).length = sz) (hl : l.length = n) {i : Nat} (hi : i < n) :
    ∃ ad p, A = some ad ∧ l[i]? = some p ∧ ∀ t u, (f p)[t]? = some u → w.cell? ((ad.add (i * sz)).add t) = some u := by
  obtain ⟨ad, e, hb, hc⟩ := h.2 (by omega); refine ⟨ad, l[i]'(by omega), e, List.getElem?_eq_getElem (by omega), fun t u ht => ?_⟩
  have htl : t < sz := by
    rcases Nat.lt_or_ge t sz with h | h
    · exact h
    · rw [List.getElem?_eq_none (by rw [hf]; exact h)] at ht; cases ht
  rw [add_of_add]; refine hc _ _ ?_; rw [flatS_get f sz hf l i _ t (List.getElem?_eq_getElem (by omega)) htl]; exact ht
def Mx.lst (x : Mx) : Nat → Nat
  | 0 => 8
  | k+1 => min (x.lst k) (x.rk k).length
end Go.Proofs.YtafadpaljanghaaGreatDoor
namespace Go.Proofs.YtafadpaljanghaaGreatDoor
set_option linter.unusedSimpArgs false
open Go.RowKit
set_option linter.unusedVariables false
structure RKS (w : World) (A : Option Addr) (n : Nat) (R : List RkV) : Prop where
  len : R.length = n
  rd : Reads w w.heap.size 6 A n (R.flatMap RkV.cells)
theorem RKS.below {w w' : World} {A : Option Addr} {n : Nat} {R : List RkV} (h : RKS w A n R) (hb : Below w.heap.size w w') : RKS w' A n R := ⟨h.len, (h.rd.below hb).more hb.size⟩
theorem RKS.cells {w : World} {A : Option Addr} {n : Nat} {R : List RkV} (h : RKS w A n R) {i : Nat} (hi : i < n) :
    ∃ ad r, A = some ad ∧ R[i]? = some r ∧ w.cell? (ad.add (i * 6)) = some (.string r.nm) ∧ w.cell? ((ad.add (i * 6)).add 1) = some (.int .i64 r.kind) ∧ w.cell? ((ad.add (i * 6)).add 2) = some (.int .i64 r.num) ∧ w.cell? ((ad.add (i * 6)).add 3) = some (.int .i64 r.den) ∧ w.cell? ((ad.add (i * 6)).add 4) = some (.int .i64 r.low) ∧ w.cell? ((ad.add (i * 6)).add 5) = some (.int .i64 r.cnt) := by
  obtain ⟨ad, r, e, hr, hc⟩ := flatS_cells h.rd (fun _ => rfl) h.len hi; have c0 := hc 0 _ rfl; rw [show ∀ ad : Addr, ad.add 0 = ad from fun ad => by simp [Addr.add]] at c0; exact ⟨ad, r, e, hr, c0, hc 1 _ rfl, hc 2 _ rfl, hc 3 _ rfl, hc 4 _ rfl, hc 5 _ rfl⟩
def RkV.fit (r : RkV) : Prop := i64 r.kind ∧ i64 r.num ∧ i64 r.den ∧ i64 r.low ∧ i64 r.cnt
end Go.Proofs.YtafadpaljanghaaGreatDoor
namespace Go.Proofs.YtafadpaljanghaaGreatDoor
open Go.ChangeShapes Go.WideShapes Go.ChangeAt Go.RowKit Go.Deep
set_option linter.unusedVariables false
set_option linter.unusedSimpArgs false
end Go.Proofs.YtafadpaljanghaaGreatDoor
namespace Go.Proofs.YtafadpaljanghaaGreatDoor
set_option linter.unusedSimpArgs false
open Go.RowKit
set_option linter.unusedVariables false
theorem RkV.bad_ways (r : RkV) : (r.low < 0 ∧ r.bad = true) ∨ (0 ≤ r.low ∧ 127 < r.low ∧ r.bad = true) ∨ (0 ≤ r.low ∧ r.low ≤ 127 ∧ r.cnt < 1 ∧ r.bad = true) ∨ (0 ≤ r.low ∧ r.low ≤ 127 ∧ 1 ≤ r.cnt ∧ 97 < r.cnt ∧ r.bad = true) ∨ (0 ≤ r.low ∧ r.low ≤ 127 ∧ 1 ≤ r.cnt ∧ r.cnt ≤ 97 ∧ 128 < r.low + r.cnt ∧ r.bad = true) ∨ (0 ≤ r.low ∧ r.low ≤ 127 ∧ 1 ≤ r.cnt ∧ r.cnt ≤ 97 ∧ r.low + r.cnt ≤ 128 ∧ r.bad = false) := by
  have hb : r.bad = true ↔ (r.low < 0 ∨ 127 < r.low ∨ r.cnt < 1 ∨ 97 < r.cnt ∨ 128 < r.low + r.cnt) := by
    unfold RkV.bad; simp only [Bool.or_eq_true, decide_eq_true_eq, or_assoc]
  have hb2 : r.bad = false ↔ ¬ (r.low < 0 ∨ 127 < r.low ∨ r.cnt < 1 ∨ 97 < r.cnt ∨ 128 < r.low + r.cnt) := by
    rw [← hb]; simp
  rw [hb2, hb]; omega
set_option maxHeartbeats 6400000 in
set_option maxRecDepth 100000 in
theorem mhas_any (p : Addr) (r : RkV) (f t : Int) (w : World) (c4 : w.cell? ⟨p.block, p.off + 4, none⟩ = some (.int .i64 r.low)) (c5 : w.cell? ⟨p.block, p.off + 5, none⟩ = some (.int .i64 r.cnt)) (hf : i64 f) (ht : i64 t) :
    Calls Tryz.prog 37 #[.pointer (some p), .int .i64 f, .int .i64 t] w fun e w' => e = .returned (.bool (r.hasP f t)) ∧ ∃ m, w' = w.drewN m := by
  have HH : Sl (r.hasP f t = (!r.bad && (decide (r.low ≤ f) && decide (t < r.low + r.cnt)))) := ⟨rfl⟩; obtain ⟨lo, hlo⟩ : ∃ lo, r.low = lo := ⟨_, rfl⟩; obtain ⟨ct, hct⟩ : ∃ ct, r.cnt = ct := ⟨_, rfl⟩; have hw := r.bad_ways; rw [hlo] at c4 hw HH; rw [hct] at c5 hw HH; clear hlo hct hf ht; rcases hw with ⟨h1, hb⟩ | ⟨h1, h2, hb⟩ | ⟨h1, h2, h3, hb⟩ | ⟨h1, h2, h3, h4, hb⟩ | ⟨h1, h2, h3, h4, h5, hb⟩ | ⟨h1, h2, h3, h4, h5, hb⟩
  · have d1 : decide (lo < 0) = true := decide_eq_true h1; rw [hb] at HH; have HF : Sl (r.hasP f t = false) := ⟨HH.out⟩; clear hb HH; go_enter Tryz.func37, Tryz.ntmps37; go_wp2_with fail
    go_quiet (fail)
    go_wp2_with fail; go_ret; exact ⟨by rw [HF.out]; rfl, _, rfl⟩
  · have d1 : decide (lo < 0) = false := decide_eq_false (by omega); have d2 : decide (127 < lo) = true := decide_eq_true h2; rw [hb] at HH; have HF : Sl (r.hasP f t = false) := ⟨HH.out⟩; clear hb HH; go_enter Tryz.func37, Tryz.ntmps37; go_wp2_with fail
    go_quiet (fail)
    go_wp2_with fail; go_ret; exact ⟨by rw [HF.out]; rfl, _, rfl⟩
  · have d1 : decide (lo < 0) = false := decide_eq_false (by omega); have d2 : decide (127 < lo) = false := decide_eq_false (by omega); have d3 : decide (ct < 1) = true := decide_eq_true h3; rw [hb] at HH; have HF : Sl (r.hasP f t = false) := ⟨HH.out⟩; clear hb HH; go_enter Tryz.func37, Tryz.ntmps37; go_wp2_with fail
    go_quiet (fail)
    go_wp2_with fail; go_ret; exact ⟨by rw [HF.out]; rfl, _, rfl⟩
  · have d1 : decide (lo < 0) = false := decide_eq_false (by omega); have d2 : decide (127 < lo) = false := decide_eq_false (by omega); have d3 : decide (ct < 1) = false := decide_eq_false (by omega); have d4 : decide (97 < ct) = true := decide_eq_true h4; rw [hb] at HH; have HF : Sl (r.hasP f t = false) := ⟨HH.out⟩; clear hb HH; go_enter Tryz.func37, Tryz.ntmps37; go_wp2_with fail
    go_quiet (fail)
    go_wp2_with fail; go_ret; exact ⟨by rw [HF.out]; rfl, _, rfl⟩
  · have d1 : decide (lo < 0) = false := decide_eq_false (by omega); have d2 : decide (127 < lo) = false := decide_eq_false (by omega); have d3 : decide (ct < 1) = false := decide_eq_false (by omega); have d4 : decide (97 < ct) = false := decide_eq_false (by omega); have d5 : decide (128 < lo + ct) = true := decide_eq_true h5; rw [hb] at HH; have HF : Sl (r.hasP f t = false) := ⟨HH.out⟩; clear hb HH; go_enter Tryz.func37, Tryz.ntmps37; go_wp2_with fail
    go_quiet (fail)
    go_wp2_with fail; go_ret; exact ⟨by rw [HF.out]; rfl, _, rfl⟩
  · have d1 : decide (lo < 0) = false := decide_eq_false (by omega); have d2 : decide (127 < lo) = false := decide_eq_false (by omega); have d3 : decide (ct < 1) = false := decide_eq_false (by omega); have d4 : decide (97 < ct) = false := decide_eq_false (by omega); have d5 : decide (128 < lo + ct) = false := decide_eq_false (by omega); rw [hb] at HH; have HF : Sl (r.hasP f t = (decide (lo ≤ f) && decide (t < lo + ct))) := ⟨HH.out⟩; clear hb HH; go_enter Tryz.func37, Tryz.ntmps37; go_wp2_with fail
    go_quiet (fail)
    have q4 : (w.drewN nq).cell? ⟨p.block, p.off + 4, none⟩ = some (.int .i64 lo) := c4; have q5 : (w.drewN nq).cell? ⟨p.block, p.off + 5, none⟩ = some (.int .i64 ct) := c5
    by_cases h6 : lo ≤ f
    · have d6 : decide (lo ≤ f) = true := decide_eq_true h6
      by_cases h7 : t < lo + ct
      · have d7 : decide (t < lo + ct) = true := decide_eq_true h7; rw [d6, d7] at HF; go_wp2_with fail
        go_quiet (fail)
        go_wp2_with fail; go_ret; exact ⟨by rw [HF.out]; rfl, _, by simp; rfl⟩
      · have d7 : decide (t < lo + ct) = false := decide_eq_false h7; rw [d6, d7] at HF; go_wp2_with fail
        go_quiet (fail)
        go_wp2_with fail; go_ret; exact ⟨by rw [HF.out]; rfl, _, by simp; rfl⟩
    · have d6 : decide (lo ≤ f) = false := decide_eq_false h6; rw [d6] at HF; go_wp2_with fail
      go_quiet (fail)
      go_wp2_with fail; go_ret; exact ⟨by rw [HF.out]; rfl, _, by simp; rfl⟩
end Go.Proofs.YtafadpaljanghaaGreatDoor
namespace Go.Proofs.YtafadpaljanghaaGreatDoor
set_option linter.unusedSimpArgs false
open Go.RowKit
set_option linter.unusedVariables false
end Go.Proofs.YtafadpaljanghaaGreatDoor
namespace Go.Proofs.YtafadpaljanghaaGreatDoor
set_option linter.unusedSimpArgs false
open Go.RowKit
set_option linter.unusedVariables false
def BrQm (A : Nat → Act) (F : Nat → World → Prop) : Exit → Act → World → Prop
  | .normal, a, w => ∃ g, a = A g ∧ F g w
  | _, _, _ => False
theorem wp_branchm {P : Program} {c : Code} {Q : Exit → Act → World → Prop} {a : Act} {w : World} (F : Nat → World → Prop) {A : Nat → Act} (h2 : c.wp P (BrQm A F) a w) (h1 : ∀ g w', F g w' → Q .normal (A g) w') : c.wp P Q a w :=
  Code.wp_mono (fun e a' w' h => by
    cases e <;> first | exact h.elim | (obtain ⟨g, rfl, hF⟩ := h; exact h1 g w' hF)) h2
section
variable {P : Program} {ops : Array Oper} {Q : Exit → Act → World → Prop} {md : Region.Mode} {S : World → Prop}
theorem wpAnyH_twom (i j : Nat) {oi oj : Oper} {fuel : Nat} {listed : Array Bool} {a : Act} {w : World} (hi0 : ops.toList[i]? = some oi) (hj0 : ops.toList[j]? = some oj) (hr : Region.ready md ops listed = [i, j]) (hgi : oi.guard = none) (hgj : oj.guard = none)
    (h1 : ∀ K' : Act → World → Prop, Shut (∀ a w, S w → (S w → wpAnyH P md ops Q S fuel (listed.setIfInBounds i true) a w) → K' a w) → Oper.wp P oi a w K' Q)
    (h2 : ∀ K' : Act → World → Prop, Shut (∀ a w, S w → (S w → wpAnyH P md ops Q S fuel (listed.setIfInBounds j true) a w) → K' a w) → Oper.wp P oj a w K' Q) : wpAnyH P md ops Q S (fuel + 1) listed a w :=
  have hi : ops[i]? = some oi := (by rw [← Array.getElem?_toList]; exact hi0); have hj : ops[j]? = some oj := (by rw [← Array.getElem?_toList]; exact hj0)
  wpAnyH_ready hr (by simp) (AllReadyH.cons hi (fun K' hK => by
    have hw : Region.wanted oi (yielded ops a.tmps) = true := (by simp [Region.wanted, hgi]); rw [if_pos hw]
    exact h1 K' hK) (AllReadyH.cons hj (fun K' hK => by
    have hw : Region.wanted oj (yielded ops a.tmps) = true := (by simp [Region.wanted, hgj]); rw [if_pos hw]
    exact h2 K' hK) AllReadyH.nil))
end
section
variable {P : Program} {op : Oper} {a : Act} {w : World} {K : Act → World → Prop} {Q : Exit → Act → World → Prop}
theorem wp_alloc_newm (ty : TypeId) (ho : op.op = .alloc ty) (cells : Array Value)
    (hz : ∀ w, (Instr.alloc ty true (.tuple #[])).run P w = .ok (.pointer (some ⟨w.heap.size, 0, none⟩)) (w.alloc (.cells cells ty)))
    (h : ∀ w' g, g = w.heap.size → Below w.heap.size w w' → w'.heap.size = g + 1 → Blk w' g ty cells → K (a.put op.dst (.pointer (some ⟨g, 0, none⟩))) w') : op.wp P a w K Q := by
  have hrun : (execOp a.eval op).run P w = .ok (.value (.pointer (some ⟨w.heap.size, 0, none⟩))) (w.alloc (.cells cells ty)) := by
    unfold execOp; simp only [ho, Sem.run_bind, hz, Result.andThen_ok, Sem.run_pure]
  unfold Oper.wp; rw [hrun, Oper.upon_value]; exact h _ _ rfl ((Below.refl _ _).alloc (Nat.le_refl _) _) (by simp) (Blk.new w ty cells)
end
section
variable {P : Program} {op : Oper} {a : Act} {w : World} {K : Act → World → Prop} {Q : Exit → Act → World → Prop}
theorem wp_store_partm (ty : TypeId) (x y : Operand) (ho : op.op = .store ty x y)
    (g o : Nat) (cells : Array Value) (hx : a.eval x = .pointer (some ⟨g, o, none⟩)) (hy : a.eval y = .agg cells)
    (t : TypeId) (cs cs' : Array Value) (hB : Blk w g t cs) (hn : o + cells.size ≤ cs.size) (hp : putA cs o cells.toList = cs')
    (hi : (P.info? ty).map (·.size) = some cells.size) (h1 : cells.all (·.oneCell') = true)
    (h : ∀ w', Mv g w w' → w'.heap.size = w.heap.size → Blk w' g t cs' → K (a.put op.dst undef) w') : op.wp P a w K Q := by
  refine wp_store_mid ty x y ho g o cells hx hy (hB.there o _ hn) hi h1 (h _ (Mv.setCells _ _ _ _) (setCells_size _ _ _ _) ?_); rw [← hp]; exact Blk.setCells (w := w) _ _ _ _ hB
end
end Go.Proofs.YtafadpaljanghaaGreatDoor
namespace Go.Proofs.YtafadpaljanghaaGreatDoor
set_option linter.unusedSimpArgs false
open Go.RowKit
set_option linter.unusedVariables false
abbrev tPt : TypeId := 41
abbrev tBk : TypeId := 59
theorem alloc_ptm (w : World) : (Instr.alloc 41 true (.tuple #[])).run Tryz.prog w = .ok (.pointer (some ⟨w.heap.size, 0, none⟩)) (w.alloc (.cells #[.int .i64 0, .int .i64 0, .int .i64 0, .int .i64 0] 41)) := by kernel_rfl
theorem size_ptm : (Tryz.prog.info? 41).map (·.size) = some 4 := by kernel_rfl
theorem paeC_len (k : Int) : ∀ o : List Rn, ((o.map (ptOf k)).flatMap ptC).length = o.length * 4
  | [] => rfl
  | x :: o => by rw [List.map_cons, List.flatMap_cons, List.length_append, paeC_len k o, List.length_cons, Nat.succ_mul]; show 4 + _ = _; omega
theorem paeC_set (k : Int) (o : List Rn) (f t s t2 : Int) : (((o ++ [(f, t, s)]).map (ptOf k)).flatMap ptC).set (o.length * 4 + 3) (.int .i64 t2) = ((o ++ [(f, t2, s)]).map (ptOf k)).flatMap ptC := by
  rw [List.map_append, List.map_append, List.flatMap_append, List.flatMap_append, List.set_append_right _ _ (by rw [paeC_len]; omega), paeC_len, show o.length * 4 + 3 - o.length * 4 = 3 by omega]; rfl
theorem paeC_last (k : Int) (o : List Rn) (f t s : Int) : (((o ++ [(f, t, s)]).map (ptOf k)).flatMap ptC)[o.length * 4 + 3]? = some (.int .i64 t) ∧ (((o ++ [(f, t, s)]).map (ptOf k)).flatMap ptC)[o.length * 4 + 1]? = some (.int .i64 s) := by
  have h : ((o ++ [(f, t, s)]).map (ptOf k))[o.length]? = some (k, s, f, t) := (by rw [List.getElem?_map, List.getElem?_append_right (Nat.le_refl _), Nat.sub_self]; rfl); exact ⟨flatS_get ptC 4 (fun _ => rfl) _ _ _ 3 h (by decide), flatS_get ptC 4 (fun _ => rfl) _ _ _ 1 h (by decide)⟩
theorem infoPae : ∃ (i : TypeInfo) (z : Value), Tryz.prog.info? tPt = some i ∧ i.zero = some z ∧ i.size = 4 ∧ i.bytes = 32 ∧ z.cells.size = 4 := by
  have h : (Tryz.prog.info? tPt).isSome = true := (by kernel_rfl); obtain ⟨i, hi⟩ := Option.isSome_iff_exists.1 h; have h1 : (Tryz.prog.info? tPt).bind (·.zero) = some (.agg #[.int .i64 0, .int .i64 0, .int .i64 0, .int .i64 0]) := (by kernel_rfl); have h2 : (Tryz.prog.info? tPt).map (·.size) = some 4 := (by kernel_rfl); have h3 : (Tryz.prog.info? tPt).map (·.bytes) = some 32 := (by kernel_rfl); rw [hi] at h1 h2 h3; exact ⟨i, _, hi, by simpa using h1, by simpa using h2, by simpa using h3, rfl⟩
set_option maxHeartbeats 12800000 in
set_option maxRecDepth 100000 in
theorem mruns_any (g : Nat) (a b : Int) (A : Option Addr) (n c : Nat) (L : List Bk) (x : Mx) (hx : mxO a b L = x) (p : Nat) (k own : Int) (w : World) (hB : Blk w g 34 #[.int .i64 a, .int .i64 b, .slice A n c]) (hM : MXA w A n c L) (hF : x.Fine) (hp : p ≤ 100) (ho : -1000000000000 ≤ own ∧ own ≤ 1000000000000) :
    Calls Tryz.prog 36 #[.pointer (some ⟨g, 0, none⟩), .int .i64 p, .int .i64 k, .int .i64 own] w fun e w' => (∃ v, e = .returned v ∧ w'.ownsRow w.heap.size tPt 4 v (x.runs p own x.n).length (((x.runs p own x.n).map (ptOf k)).flatMap ptC)) ∧ Below w.heap.size w w' := by
  obtain ⟨i2, z2, hi0, hz0, hz1, hz2, hz3⟩ := infoPae; have HI : Sl _ := ⟨And.intro hi0 (And.intro hz0 (And.intro hz1 (And.intro hz2 hz3)))⟩; clear hi0 hz0 hz1 hz2 hz3; have HBK : Sl _ := ⟨hB⟩; have HM : Sl _ := ⟨hM⟩; have HX : Sl _ := ⟨hx⟩; have HFF : Sl _ := ⟨hF⟩; have HXN : Sl (x.n = n) := ⟨by rw [← hx]; exact hM.mx.len⟩; have hn12 : n ≤ 12 := (by rw [← HXN.out]; exact hF.n1); have c0 := hB.cell 0; have c1 := hB.cell 1; have c2 := hB.cell 2; simp at c0 c1 c2; clear hB hM hF hx; go_enter Tryz.func36, Tryz.ntmps36; go_wp2_with fail
  go_loopw [9, 10, 11, 12, 13, 19] (fun s9 s10 s11 s12 s13 s19 wr => ∃ (i : Nat) (v v10 v11 v12 v13 : Value), i ≤ n ∧ s19 = .int .i64 i ∧ v = s9 ∧ s10 = v10 ∧ s11 = v11 ∧ s12 = v12 ∧ s13 = v13 ∧ Sl (wr.ownsRow w.heap.size tPt 4 v (x.runs p own i).length (((x.runs p own i).map (ptOf k)).flatMap ptC) ∧ Below w.heap.size w wr)) (fun _ _ _ _ _ s19 _ => n - (RowKit.intOf s19).toNat)
  case atStart => exact ⟨0, _, _, _, _, _, Nat.zero_le _, rfl, rfl, rfl, rfl, rfl, rfl, ⟨World.ownsRow_nil _ _ _ _, Below.refl _ _⟩⟩
  case round =>
    clear c0 c1 c2; obtain ⟨i, v, v10, v11, v12, v13, hi, rfl, rfl, rfl, rfl, rfl, rfl, HQ⟩ := hrel
    by_cases hin : i < n
    · have hiI : (i : Int) < (n : Int) := (by omega); have hid : decide ((i : Int) < (n : Int)) = true := decide_eq_true hiI; obtain ⟨bk, hbk⟩ : ∃ bk, L[i]? = some bk := ⟨_, List.getElem?_eq_getElem (by rw [HM.out.mx.len]; exact hin)⟩; have hmw := HM.out.below HQ.out.2; obtain ⟨ad, rfl, _, p1, p2⟩ := hmw.mx.cells2 hbk; have hat := mxO_at (a := a) (b := b) hbk; rw [HX.out] at hat; have hii := hmw.mx.rk bk (List.mem_of_getElem? hbk); obtain ⟨fr, BA, bn, bc, bl⟩ := bk; simp only [] at p1 p2 hat hii; have HAT : Sl (x.fr i = fr ∧ x.rk i = bl ∧ bl.length = bn) := ⟨hat.1, hat.2, hii.1⟩
      have hbn : bn ≤ 8 ∧ 0 < bn := by
        have h1 := HFF.out.k1 i (by rw [HXN.out]; exact hin); have h2 := HFF.out.k0 i (by rw [HXN.out]; exact hin); rw [HAT.out.2.1, HAT.out.2.2] at h1 h2; exact ⟨h1, h2⟩
      obtain ⟨b2, o2, rfl, hb2, hcs⟩ := hii.flat hbn.2; have hfr := HFF.out.fr_bd (i := i) (by rw [HXN.out]; exact hin); have hls := HFF.out.last_bd (i := i) (by rw [HXN.out]; exact hin); rw [HAT.out.1] at hfr; obtain ⟨lst, hlst⟩ : ∃ t, x.last i = t := ⟨_, rfl⟩; rw [hlst] at hls; have HLS : Sl (x.last i = lst) := ⟨hlst⟩
      have HST : Sl (x.runs p own (i + 1) = if p < bn then rst (x.runs p own i) fr lst (gt bl p - own) else x.runs p own i) := ⟨by
        rw [Mx.runs, HAT.out.1, HLS.out, HAT.out.2.1, HAT.out.2.2]; unfold Mx.sh; rw [HAT.out.2.1]⟩
      have HRL : Sl ((x.runs p own i).length ≤ 12) := ⟨by have := x.runs_len p own i; omega⟩; have HBB : Sl (∀ W : World, Below wr.heap.size wr W → Blk W g 34 #[.int .i64 a, .int .i64 b, .slice (some ad) n c] ∧ MXA W (some ad) n c L) := ⟨fun W h => ⟨(HBK.out.below HQ.out.2 HBK.out.lt).below h (Nat.lt_of_lt_of_le HBK.out.lt HQ.out.2.size), hmw.below h⟩⟩
      have HCS : Sl (∀ W : World, Below wr.heap.size wr W → ∀ j, j < bn → W.cell? ⟨b2, o2 + j, none⟩ = some (.int .i64 (gt bl j))) := ⟨fun W h j hj => by
        rw [h.cell (p := ⟨b2, o2 + j, none⟩) hb2, hcs j (by rw [HAT.out.2.2]; exact hj)]
        rfl⟩
      have HU1 : Sl (Below wr.heap.size wr (wr.alloc (.cells #[.int .i64 fr, .slice (some ⟨b2, o2, none⟩) bn bc] tBk))) := ⟨(Below.refl _ _).alloc (Nat.le_refl _) _⟩; have HXB : Sl (Blk (wr.alloc (.cells #[.int .i64 fr, .slice (some ⟨b2, o2, none⟩) bn bc] tBk)) wr.heap.size tBk #[.int .i64 fr, .slice (some ⟨b2, o2, none⟩) bn bc]) := ⟨Blk.new _ _ _⟩; clear hcs hlst hat hii hmw hbk hb2
      by_cases hpl : p < bn
      · have hpd : decide ((bn : Int) ≤ (p : Int)) = false := decide_eq_false (by omega); have hpI : (p : Int) < (bn : Int) := (by omega); have hpI2 : ¬ (bn : Int) ≤ (p : Int) := (by omega); rw [if_pos hpl] at HST; obtain ⟨z, hz⟩ : ∃ z, gt bl p = z := ⟨_, rfl⟩; have hzb := HFF.out.rg i (by rw [HXN.out]; exact hin) p (by rw [HAT.out.2.1, HAT.out.2.2]; exact hpl); rw [HAT.out.2.1, hz] at hzb; have HZ : Sl (gt bl p = z) := ⟨hz⟩; rw [hz] at HST; obtain ⟨s, hs⟩ : ∃ s, z - own = s := ⟨_, rfl⟩; have HS0 : Sl (z - own = s) := ⟨hs⟩; have hsw : IntKind.i64.wrap (z - own) = s := (by rw [hs, IntKind.wrap_i64]; omega); have hsb : -2000000000000 ≤ s ∧ s ≤ 2000000000000 := (by omega); rw [hs] at HST; clear hz hs; go_wp2_with fail; obtain ⟨g11, hg11⟩ : ∃ q, wr.heap.size = q := ⟨_, rfl⟩; rw [hg11] at HXB
        (try rw [hg11])
        have HG : Sl (wr.heap.size = g11) := ⟨hg11⟩; clear hg11; have HOA : Sl ((wr.alloc (.cells #[.int .i64 fr, .slice (some ⟨b2, o2, none⟩) bn bc] tBk)).ownsRow w.heap.size tPt 4 v (x.runs p own i).length (((x.runs p own i).map (ptOf k)).flatMap ptC)) := ⟨xown_alloc HQ.out.1 _⟩; have HBL : Sl (Below w.heap.size w (wr.alloc (.cells #[.int .i64 fr, .slice (some ⟨b2, o2, none⟩) bn bc] tBk))) := ⟨HQ.out.2.alloc HQ.out.2.size _⟩; generalize wr.alloc (.cells #[.int .i64 fr, .slice (some ⟨b2, o2, none⟩) bn bc] tBk) = wa at *
        have HS : Sl (∀ W : World, Below wa.heap.size wa W → W.cell? ⟨g11, 1, none⟩ = some (.slice (some ⟨b2, o2, none⟩) bn bc) ∧ W.cell? ⟨g11, 0, none⟩ = some (.int .i64 fr) ∧ W.cell? ⟨b2, o2 + p, none⟩ = some (.int .i64 z)) := ⟨fun W h => by
          have e := HXB.out.below h HXB.out.lt; have h2 := HCS.out W (HU1.out.trans (h.mono HU1.out.size)) p hpl; rw [HZ.out] at h2
          exact ⟨by rw [e.cell]; rfl, by rw [e.cell]; rfl, h2⟩⟩
        have HLA : Sl (∀ W : World, Below wa.heap.size wa W → Calls Tryz.prog 63 #[.pointer (some ⟨g, 0, none⟩), .int .i64 i] W fun e w' => e = .returned (.int .i64 lst) ∧ w' = W) := ⟨fun W h => by
          obtain ⟨h1, h2⟩ := HBB.out W (HU1.out.trans (h.mono HU1.out.size)); have := last_any g a b (some ad) n c L i W h1 h2 hin (by omega) (by rw [HX.out, HLS.out]; exact ⟨by omega, by omega⟩); rw [HX.out, HLS.out] at this
          exact this⟩
        refine' wp_branchm (fun gn w' => Below wa.heap.size wa w' ∧ wa.heap.size ≤ gn ∧ Blk w' gn 41 #[.int .i64 k, .int .i64 s, .int .i64 fr, .int .i64 lst]) ?hreg ?hrest
        case hreg =>
          have hm : Below wa.heap.size wa wa.drew := below_drewN (Below.refl _ _) 1; have HSW : Sl _ := ⟨hm⟩; refine wp_region_held_drew (S := fun w' => Below wa.heap.size wa w') (by kernel_rfl) hm (fun hHeld => ?_); clear hm; refine wpAnyH_pure 0 (v := .int .i64 k) rfl (by kernel_rfl) (by kernel_rfl) (by kernel_rfl) (fun _ _ _ h => h) rfl (fun _ => rfl) (by assumption) ?_; simp only [Act.put, sS0, sS1, sS2]; refine wpAnyH_pure 1 (v := .pointer (some ⟨g11, 1, none⟩)) rfl (by kernel_rfl) (by kernel_rfl) (by kernel_rfl) (fun _ _ _ h => h) rfl (fun _ => by go_simp) (by assumption) ?_; simp only [Act.put, sS0, sS1, sS2]
          refine wpAnyH_cell 2 (v := .slice (some ⟨b2, o2, none⟩) bn bc) rfl rfl (fun w' h => by
            have hc := (HS.out w' h).1
            go_simp) (by kernel_rfl) (by kernel_rfl) (by kernel_rfl) (fun _ _ _ h => h) (by assumption) ?_
          simp only [Act.put, sS0, sS1, sS2]; refine wpAnyH_pure 3 (v := .int .i64 (p : Int)) rfl (by kernel_rfl) (by kernel_rfl) (by kernel_rfl) (fun _ _ _ h => h) rfl (fun _ => rfl) (by assumption) ?_; simp only [Act.put, sS0, sS1, sS2]; refine wpAnyH_pure 4 (v := .pointer (some ⟨b2, o2 + p, none⟩)) rfl (by kernel_rfl) (by kernel_rfl) (by kernel_rfl) (fun _ _ _ h => h) rfl (fun _ => by go_simp) (by assumption) ?_; simp only [Act.put, sS0, sS1, sS2]
          refine wpAnyH_cell 5 (v := .int .i64 z) rfl rfl (fun w' h => by
            have hc := (HS.out w' h).2.2
            go_simp) (by kernel_rfl) (by kernel_rfl) (by kernel_rfl) (fun _ _ _ h => h) (by assumption) ?_
          simp only [Act.put, sS0, sS1, sS2]; refine wpAnyH_pure 6 (v := .int .i64 own) rfl (by kernel_rfl) (by kernel_rfl) (by kernel_rfl) (fun _ _ _ h => h) rfl (fun _ => rfl) (by assumption) ?_; simp only [Act.put, sS0, sS1, sS2]; refine wpAnyH_pure 7 (v := .int .i64 s) rfl (by kernel_rfl) (by kernel_rfl) (by kernel_rfl) (fun _ _ _ h => h) rfl (fun _ => by go_simp) (by assumption) ?_; simp only [Act.put, sS0, sS1, sS2]; refine wpAnyH_pure 8 (v := .pointer (some ⟨g11, 0, none⟩)) rfl (by kernel_rfl) (by kernel_rfl) (by kernel_rfl) (fun _ _ _ h => h) rfl (fun _ => by go_simp) (by assumption) ?_; simp only [Act.put, sS0, sS1, sS2]
          refine wpAnyH_cell 9 (v := .int .i64 fr) rfl rfl (fun w' h => by
            have hc := (HS.out w' h).2.1
            go_simp) (by kernel_rfl) (by kernel_rfl) (by kernel_rfl) (fun _ _ _ h => h) (by assumption) ?_
          simp only [Act.put, sS0, sS1, sS2]; refine wpAnyH_pure 10 (v := .pointer (some ⟨g, 0, none⟩)) rfl (by kernel_rfl) (by kernel_rfl) (by kernel_rfl) (fun _ _ _ h => h) rfl (fun _ => rfl) (by assumption) ?_; simp only [Act.put, sS0, sS1, sS2]; refine wpAnyH_pure 11 (v := .int .i64 (i : Int)) rfl (by kernel_rfl) (by kernel_rfl) (by kernel_rfl) (fun _ _ _ h => h) rfl (fun _ => rfl) (by assumption) ?_; simp only [Act.put, sS0, sS1, sS2]; refine wpAnyH_twom 12 14 rfl rfl (by kernel_rfl) rfl rfl (fun K hK => ?_) (fun K hK => ?_)
          · skip; go_simp; go_at_call 63
            (with_reducible refine (HLA.out _ HSW.out).mono ?_)
            rintro e z1 ⟨rfl, rfl⟩; refine hK.out _ _ HSW.out (fun hHeld => ?_); clear hK K
            (try simp only [Act.put, sS0, sS1, sS2])
            refine wpAnyH_pure 13 (v := .agg #[.int .i64 k, .int .i64 s, .int .i64 fr, .int .i64 lst]) rfl (by kernel_rfl) (by kernel_rfl) (by kernel_rfl) (fun _ _ _ h => h) rfl (fun _ => by go_simp) (by assumption) ?_; simp only [Act.put, sS0, sS1, sS2]; refine wpAnyH_one 14 rfl (by kernel_rfl) rfl (fun K hK => ?_); refine wp_alloc_newm 41 rfl #[.int .i64 0, .int .i64 0, .int .i64 0, .int .i64 0] alloc_ptm ?_; rintro z2 gn zg zm zs zb; have GE : Sl (wa.heap.size ≤ gn) := ⟨by have := HSW.out.size; omega⟩; have NB : Sl (Blk z2 gn 41 #[.int .i64 0, .int .i64 0, .int .i64 0, .int .i64 0]) := ⟨zb⟩; replace HSW : Sl (RowKit.Below wa.heap.size wa z2) := ⟨HSW.out.trans (zm.mono HSW.out.size)⟩; refine hK.out _ _ HSW.out (fun hHeld => ?_); clear hK K zg zm zs zb; simp only [Act.put, sS0, sS1, sS2]; refine wpAnyH_one 15 rfl (by kernel_rfl) rfl (fun K hK => ?_); refine wp_store_partm 41 (.tmp 12) (.tmp 42) rfl gn 0 #[.int .i64 k, .int .i64 s, .int .i64 fr, .int .i64 lst] rfl rfl 41 #[.int .i64 0, .int .i64 0, .int .i64 0, .int .i64 0] #[.int .i64 k, .int .i64 s, .int .i64 fr, .int .i64 lst] NB.out (Nat.le_refl 4) (putA_all _ _ rfl) size_ptm (by simp [Value.oneCell']) ?_; rintro z3 zm zs zb; have hbn : Below wa.heap.size wa z3 := below_mv HSW.out zm GE.out HSW.out.size; replace HSW : Sl (RowKit.Below wa.heap.size wa z3) := ⟨hbn⟩; refine hK.out _ _ hbn (fun hHeld => ?_); clear hK K hbn zm zs; simp only [Act.put, sS0, sS1, sS2]; exact wpAnyH_done (by kernel_rfl) ⟨gn, rfl, HSW.out, GE.out, zb⟩ _
          · skip; refine wp_alloc_newm 41 rfl #[.int .i64 0, .int .i64 0, .int .i64 0, .int .i64 0] alloc_ptm ?_; rintro z2 gn zg zm zs zb; have GE : Sl (wa.heap.size ≤ gn) := ⟨by have := HSW.out.size; omega⟩; have NB : Sl (Blk z2 gn 41 #[.int .i64 0, .int .i64 0, .int .i64 0, .int .i64 0]) := ⟨zb⟩; replace HSW : Sl (RowKit.Below wa.heap.size wa z2) := ⟨HSW.out.trans (zm.mono HSW.out.size)⟩; refine hK.out _ _ HSW.out (fun hHeld => ?_); clear hK K zg zm zs zb; simp only [Act.put, sS0, sS1, sS2]; refine wpAnyH_one 12 rfl (by kernel_rfl) rfl (fun K hK => ?_); go_simp; go_at_call 63
            (with_reducible refine (HLA.out _ HSW.out).mono ?_)
            rintro e z1 ⟨rfl, rfl⟩; refine hK.out _ _ HSW.out (fun hHeld => ?_); clear hK K
            (try simp only [Act.put, sS0, sS1, sS2])
            refine wpAnyH_pure 13 (v := .agg #[.int .i64 k, .int .i64 s, .int .i64 fr, .int .i64 lst]) rfl (by kernel_rfl) (by kernel_rfl) (by kernel_rfl) (fun _ _ _ h => h) rfl (fun _ => by go_simp) (by assumption) ?_; simp only [Act.put, sS0, sS1, sS2]; refine wpAnyH_one 15 rfl (by kernel_rfl) rfl (fun K hK => ?_); refine wp_store_partm 41 (.tmp 12) (.tmp 42) rfl gn 0 #[.int .i64 k, .int .i64 s, .int .i64 fr, .int .i64 lst] rfl rfl 41 #[.int .i64 0, .int .i64 0, .int .i64 0, .int .i64 0] #[.int .i64 k, .int .i64 s, .int .i64 fr, .int .i64 lst] NB.out (Nat.le_refl 4) (putA_all _ _ rfl) size_ptm (by simp [Value.oneCell']) ?_; rintro z3 zm zs zb; have hbn : Below wa.heap.size wa z3 := below_mv HSW.out zm GE.out HSW.out.size; replace HSW : Sl (RowKit.Below wa.heap.size wa z3) := ⟨hbn⟩; refine hK.out _ _ hbn (fun hHeld => ?_); clear hK K hbn zm zs; simp only [Act.put, sS0, sS1, sS2]; exact wpAnyH_done (by kernel_rfl) ⟨gn, rfl, HSW.out, GE.out, zb⟩ _
        case hrest =>
          rintro gn w5 ⟨hb5, hge, zb5⟩; have HQ5 : Sl (w5.ownsRow w.heap.size tPt 4 v (x.runs p own i).length (((x.runs p own i).map (ptOf k)).flatMap ptC)) := ⟨own_mv HOA.out (Mv.of_below hb5) (fun k hk => by have := (HOA.out.lt k hk).2; omega)⟩; have HB5 : Sl (Below w.heap.size w w5) := ⟨HBL.out.trans (hb5.mono HBL.out.size)⟩; have NB5 : Sl (Blk w5 gn 41 #[.int .i64 k, .int .i64 s, .int .i64 fr, .int .i64 lst]) := ⟨zb5⟩; have e1 := NB5.out.cell 1; have e2 := NB5.out.cell 2; simp at e1 e2; clear hb5 hge zb5 HLA HS HCS HBB HOA HBL HXB HU1; rcases List.eq_nil_or_concat (x.runs p own i) with hkr | ⟨o, ⟨f', t', s'⟩, hkr⟩
          · have HOW := HQ5; rw [hkr] at HOW; obtain ⟨A6, c6, e6, _⟩ := own_slice2 HOW.out; subst e6; rw [hkr, rst_nil] at HST; clear hkr HQ5; go_wp2_with fail
            go_quiet (fail)
            have HBY : Sl (Below w.heap.size w (w5.drewN nq)) := ⟨below_drewN HB5.out nq⟩; have HNY : Sl (Blk (w5.drewN nq) gn 41 #[.int .i64 k, .int .i64 s, .int .i64 fr, .int .i64 lst]) := ⟨NB5.out⟩; replace HOW : Sl ((w5.drewN nq).ownsRow w.heap.size tPt 4 (.slice A6 0 c6) 0 []) := ⟨HOW.out⟩; generalize w5.drewN nq = wy at *
            have e0 := HNY.out.cell 0; have e1 := HNY.out.cell 1; have e2 := HNY.out.cell 2; have e3 := HNY.out.cell 3; simp at e0 e1 e2 e3; go_wp2_with (at_builtin; go_loud (refine wpList_append_any _ rfl (.tmp 77) (.tmp 79) _ rfl w.heap.size tPt i2 z2 4 32 Tryz.underlying37 HI.out.1 HI.out.2.1 HI.out.2.2.1 HI.out.2.2.2.1 HI.out.2.2.2.2 (by decide) (.slice A6 0 c6) 0 _ rfl (xown_alloc HOW.out _) _ (some ⟨wy.heap.size, 0, none⟩) 1 1 [.int .i64 k, .int .i64 s, .int .i64 fr, .int .i64 lst] rfl (xreadsN wy _ [.int .i64 k, .int .i64 s, .int .i64 fr, .int .i64 lst] 4 rfl) (by intro u hu; simp at hu; rcases hu with rfl | rfl | rfl | rfl <;> rfl) (by unfold maxLen; omega) (by omega) (by have := HBY.out.size; simp; omega) ?_; rintro v6 w6 hown hg hat; have XS : Sl _ := ⟨And.intro hown hg⟩; clear hown hg hat)); have XQ : Sl (w6.ownsRow w.heap.size tPt 4 v6 (([] : List Rn) ++ [(fr, lst, s)]).length (((([] : List Rn) ++ [(fr, lst, s)]).map (ptOf k)).flatMap ptC)) := ⟨XS.out.1⟩; have XB : Sl (Below w.heap.size w w6) := ⟨xbelow_grown HBY.out HBY.out.size HOW.out XS.out.2⟩; exact ⟨⟨i + 1, v6, _, _, _, _, hin, by go_num, rfl, rfl, rfl, rfl, rfl, ⟨by rw [HST.out]; exact XQ.out, XB.out⟩⟩, by simp [RowKit.intOf]; omega⟩
          · rw [List.concat_eq_append] at hkr; have HKR : Sl _ := ⟨hkr⟩; have ho2 := HQ5.out; rw [hkr] at ho2 HST; obtain ⟨no, hno⟩ : ∃ m, o.length = m := ⟨_, rfl⟩; have hno61 : no ≤ 12 := (by have h1 := HRL.out; rw [hkr, List.length_append, hno] at h1; simp at h1; omega); have hlen : (o ++ [(f', t', s')]).length = no + 1 := (by rw [List.length_append, hno]; rfl); rw [hlen] at ho2; obtain ⟨gq, cq, rfl, _, _⟩ := ho2.form (Nat.succ_pos no); rw [rst_snoc] at HST; have HNO : Sl (o.length = no) := ⟨hno⟩; have q1 := ho2.cellAt (no * 4 + 3) (by omega); have q2 := ho2.cellAt (no * 4 + 1) (by omega); have hl3 := paeC_last k o f' t' s'; rw [hno] at hl3; rw [hl3.1] at q1; rw [hl3.2] at q2; obtain ⟨no1, hno1⟩ : ∃ m, no + 1 = m := ⟨_, rfl⟩; rw [hno1] at ho2; have HOW : Sl _ := ⟨ho2⟩; have HN1 : Sl (no + 1 = no1) := ⟨hno1⟩; have hnI : (no1 : Int) - 1 = (no : Int) := (by omega); have hnw : IntKind.i64.wrap (no : Int) = (no : Int) := (by rw [IntKind.wrap_i64]; omega); have hn0 : (0 : Int) < (no1 : Int) := (by omega); have hnd : decide ((0 : Int) < (no1 : Int)) = true := decide_eq_true hn0; have hn0N : 0 < no1 := (by omega); have hndN : decide (0 < no1) = true := decide_eq_true hn0N; have hnl1 : (no : Int) < (no1 : Int) := (by omega); have hfw : IntKind.i64.wrap (fr - 1) = fr - 1 := (by rw [IntKind.wrap_i64]; omega); clear ho2 hkr hl3 hlen hno hno1 HQ5 HKR; rw [show no + 1 = no1 from HN1.out]
            by_cases hc1 : t' = fr - 1
            · have b1 : (t' == fr - 1) = true := (by rw [hc1]; exact beq_self_eq_true _)
              by_cases hc2 : s' = s
              · have b2 : (s' == s) = true := (by rw [hc2]; exact beq_self_eq_true _); rw [if_pos ⟨hc1, hc2⟩, ← hc2] at HST; clear hc1 hc2; go_wp2_with fail
                go_quiet (fail)
                have HBY : Sl (Below w.heap.size w (w5.drewN nq)) := ⟨below_drewN HB5.out nq⟩; have HNY : Sl (Blk (w5.drewN nq) gn 41 #[.int .i64 k, .int .i64 s, .int .i64 fr, .int .i64 lst]) := ⟨NB5.out⟩; replace HOW : Sl ((w5.drewN nq).ownsRow w.heap.size tPt 4 (.slice (some ⟨gq, 0, none⟩) no1 cq) no1 (((o ++ [(f', t', s')]).map (ptOf k)).flatMap ptC)) := ⟨HOW.out⟩; generalize w5.drewN nq = wy at *
                have e0 := HNY.out.cell 0; have e1 := HNY.out.cell 1; have e2 := HNY.out.cell 2; have e3 := HNY.out.cell 3; simp at e0 e1 e2 e3
                go_wp2_with ((with_reducible show wpList _ _ _ _ _ _); first
                  | (refine wpList_store_own rfl 3 (.tmp 76) (.tmp 74) rfl gq (no * 4 + 3) (.int .i64 lst) rfl rfl w.heap.size tPt 4 no1 cq (((o ++ [(f', t', s')]).map (ptOf k)).flatMap ptC) HOW.out (by have := HN1.out; omega) size_int1 rfl rfl ?_; rintro w6 hm hsz hown; have XS : Sl _ := ⟨And.intro hown hm⟩; clear hown hm hsz))
                have XQ : Sl (w6.ownsRow w.heap.size tPt 4 (.slice (some ⟨gq, 0, none⟩) no1 cq) (o ++ [(f', lst, s')]).length (((o ++ [(f', lst, s')]).map (ptOf k)).flatMap ptC)) := ⟨by
                  have h := XS.out.1; rw [← HNO.out, paeC_set] at h; rw [List.length_append, HNO.out]; rw [← HN1.out] at h ⊢
                  exact h⟩
                have XB : Sl (Below w.heap.size w w6) := ⟨below_mv HBY.out XS.out.2 (HOW.out.lt gq rfl).1 HBY.out.size⟩; exact ⟨⟨i + 1, _, _, _, _, _, hin, by go_num, rfl, rfl, rfl, rfl, rfl, ⟨by rw [HST.out]; exact XQ.out, XB.out⟩⟩, by simp [RowKit.intOf]; omega⟩
              · have b2 : (s' == s) = false := (by rw [beq_eq_false_iff_ne]; exact hc2); rw [if_neg (fun h => hc2 h.2)] at HST; go_wp2_with fail
                go_quiet (fail)
                have HBY : Sl (Below w.heap.size w (w5.drewN nq)) := ⟨below_drewN HB5.out nq⟩; have HNY : Sl (Blk (w5.drewN nq) gn 41 #[.int .i64 k, .int .i64 s, .int .i64 fr, .int .i64 lst]) := ⟨NB5.out⟩; replace HOW : Sl ((w5.drewN nq).ownsRow w.heap.size tPt 4 (.slice (some ⟨gq, 0, none⟩) no1 cq) no1 (((o ++ [(f', t', s')]).map (ptOf k)).flatMap ptC)) := ⟨HOW.out⟩; generalize w5.drewN nq = wy at *
                have e0 := HNY.out.cell 0; have e1 := HNY.out.cell 1; have e2 := HNY.out.cell 2; have e3 := HNY.out.cell 3; simp at e0 e1 e2 e3; go_wp2_with (at_builtin; go_loud (refine wpList_append_any _ rfl (.tmp 77) (.tmp 79) _ rfl w.heap.size tPt i2 z2 4 32 Tryz.underlying37 HI.out.1 HI.out.2.1 HI.out.2.2.1 HI.out.2.2.2.1 HI.out.2.2.2.2 (by decide) (.slice (some ⟨gq, 0, none⟩) no1 cq) no1 _ rfl (xown_alloc HOW.out _) _ (some ⟨wy.heap.size, 0, none⟩) 1 1 [.int .i64 k, .int .i64 s, .int .i64 fr, .int .i64 lst] rfl (xreadsN wy _ [.int .i64 k, .int .i64 s, .int .i64 fr, .int .i64 lst] 4 rfl) (by intro u hu; simp at hu; rcases hu with rfl | rfl | rfl | rfl <;> rfl) (by unfold maxLen; omega) (by omega) (by have := HBY.out.size; simp; omega) ?_; rintro v6 w6 hown hg hat; have XS : Sl _ := ⟨And.intro hown hg⟩; clear hown hg hat))
                have XQ : Sl (w6.ownsRow w.heap.size tPt 4 v6 ((o ++ [(f', t', s')]) ++ [(fr, lst, s)]).length ((((o ++ [(f', t', s')]) ++ [(fr, lst, s)]).map (ptOf k)).flatMap ptC)) := ⟨by
                  rw [List.map_append (l₂ := [(fr, lst, s)]), List.flatMap_append, List.length_append, List.length_append, HNO.out, show no + [(f', t', s')].length = no1 from HN1.out]
                  exact XS.out.1⟩
                have XB : Sl (Below w.heap.size w w6) := ⟨xbelow_grown HBY.out HBY.out.size HOW.out XS.out.2⟩; exact ⟨⟨i + 1, v6, _, _, _, _, hin, by go_num, rfl, rfl, rfl, rfl, rfl, ⟨by rw [HST.out]; exact XQ.out, XB.out⟩⟩, by simp [RowKit.intOf]; omega⟩
            · have b1 : (t' == fr - 1) = false := (by rw [beq_eq_false_iff_ne]; exact hc1); rw [if_neg (fun h => hc1 h.1)] at HST; go_wp2_with fail
              go_quiet (fail)
              have HBY : Sl (Below w.heap.size w (w5.drewN nq)) := ⟨below_drewN HB5.out nq⟩; have HNY : Sl (Blk (w5.drewN nq) gn 41 #[.int .i64 k, .int .i64 s, .int .i64 fr, .int .i64 lst]) := ⟨NB5.out⟩; replace HOW : Sl ((w5.drewN nq).ownsRow w.heap.size tPt 4 (.slice (some ⟨gq, 0, none⟩) no1 cq) no1 (((o ++ [(f', t', s')]).map (ptOf k)).flatMap ptC)) := ⟨HOW.out⟩; generalize w5.drewN nq = wy at *
              have e0 := HNY.out.cell 0; have e1 := HNY.out.cell 1; have e2 := HNY.out.cell 2; have e3 := HNY.out.cell 3; simp at e0 e1 e2 e3; go_wp2_with (at_builtin; go_loud (refine wpList_append_any _ rfl (.tmp 77) (.tmp 79) _ rfl w.heap.size tPt i2 z2 4 32 Tryz.underlying37 HI.out.1 HI.out.2.1 HI.out.2.2.1 HI.out.2.2.2.1 HI.out.2.2.2.2 (by decide) (.slice (some ⟨gq, 0, none⟩) no1 cq) no1 _ rfl (xown_alloc HOW.out _) _ (some ⟨wy.heap.size, 0, none⟩) 1 1 [.int .i64 k, .int .i64 s, .int .i64 fr, .int .i64 lst] rfl (xreadsN wy _ [.int .i64 k, .int .i64 s, .int .i64 fr, .int .i64 lst] 4 rfl) (by intro u hu; simp at hu; rcases hu with rfl | rfl | rfl | rfl <;> rfl) (by unfold maxLen; omega) (by omega) (by have := HBY.out.size; simp; omega) ?_; rintro v6 w6 hown hg hat; have XS : Sl _ := ⟨And.intro hown hg⟩; clear hown hg hat))
              have XQ : Sl (w6.ownsRow w.heap.size tPt 4 v6 ((o ++ [(f', t', s')]) ++ [(fr, lst, s)]).length ((((o ++ [(f', t', s')]) ++ [(fr, lst, s)]).map (ptOf k)).flatMap ptC)) := ⟨by
                rw [List.map_append (l₂ := [(fr, lst, s)]), List.flatMap_append, List.length_append, List.length_append, HNO.out, show no + [(f', t', s')].length = no1 from HN1.out]
                exact XS.out.1⟩
              have XB : Sl (Below w.heap.size w w6) := ⟨xbelow_grown HBY.out HBY.out.size HOW.out XS.out.2⟩; exact ⟨⟨i + 1, v6, _, _, _, _, hin, by go_num, rfl, rfl, rfl, rfl, rfl, ⟨by rw [HST.out]; exact XQ.out, XB.out⟩⟩, by simp [RowKit.intOf]; omega⟩
      · have hpd : decide ((bn : Int) ≤ (p : Int)) = true := decide_eq_true (by omega); have hpI2 : (bn : Int) ≤ (p : Int) := (by omega); rw [if_neg hpl] at HST; go_wp2_with fail; exact ⟨⟨i + 1, v, _, _, _, _, hin, by go_num, rfl, rfl, rfl, rfl, rfl, ⟨by rw [HST.out]; exact xown_alloc HQ.out.1 _, HQ.out.2.alloc HQ.out.2.size _⟩⟩, by simp [RowKit.intOf]; omega⟩
    · obtain rfl : i = n := (by omega); have hid : decide ((i : Int) < (i : Int)) = false := decide_eq_false (by omega); have hiI : ¬ (i : Int) < (i : Int) := (by omega); go_wp2_with fail; go_ret; exact ⟨⟨v, rfl, by rw [HXN.out]; exact HQ.out.1⟩, HQ.out.2⟩
end Go.Proofs.YtafadpaljanghaaGreatDoor
namespace Go.Proofs.YtafadpaljanghaaGreatDoor
set_option linter.unusedSimpArgs false
open Go.RowKit
set_option linter.unusedVariables false
def inI (n : Nat) (k : Int) : Bool := decide (0 ≤ k) && decide (k < (n : Int))
set_option maxHeartbeats 1600000 in
set_option maxRecDepth 100000 in
theorem inRk_any (k : Int) (pb : Addr) (A : Option Addr) (n c : Nat) (w : World) (hb : w.cell? pb = some (.slice A n c)) (hn : n ≤ 9223372036854775807) : Calls Tryz.prog 32 #[.int .i64 k, .pointer (some pb)] w fun e w' => e = .returned (.bool (inI n k)) ∧ w' = w := by
  unfold inI
  by_cases h0 : 0 ≤ k
  · have h1 : decide (0 ≤ k) = true := decide_eq_true h0; rw [h1, Bool.true_and]; obtain ⟨r, hr⟩ : ∃ r, decide (k < (n : Int)) = r := ⟨_, rfl⟩; rw [hr]; go_enter Tryz.func32, Tryz.ntmps32; go_wp2_with fail; go_ret; exact ⟨rfl, rfl⟩
  · have h1 : decide (0 ≤ k) = false := decide_eq_false h0; rw [h1, Bool.false_and]; go_enter Tryz.func32, Tryz.ntmps32; go_wp2_with fail; go_ret; exact ⟨rfl, rfl⟩
set_option maxHeartbeats 1600000 in
set_option maxRecDepth 100000 in
theorem outRk_any (k : Int) (pr pb : Addr) (A : Option Addr) (n c : Nat) (w : World) (hr : w.cell? pr = some (.func (.func 32) #[] #[.pointer (some pb)])) (hb : w.cell? pb = some (.slice A n c)) (hn : n ≤ 9223372036854775807) : Calls Tryz.prog 35 #[.int .i64 k, .pointer (some pr)] w fun e w' => e = .returned (.bool (!inI n k)) ∧ w' = w := by
  have HC : Sl _ := ⟨inRk_any k pb A n c w hb hn⟩; have hrun : ∀ (args : Array Value) (w : World), (callFunc 32 args).run Tryz.prog w = .ok (.enter 32 args) w := fun a w => by go_simp
  clear hb; go_enter Tryz.func35, Tryz.ntmps35; go_wp2_with fail; refine HC.out.mono ?_; rintro e w1 ⟨rfl, rfl⟩; go_wp2_with fail; go_ret; exact ⟨rfl, rfl⟩
set_option maxHeartbeats 1600000 in
set_option maxRecDepth 100000 in
theorem idxOutRk_any (A : Option Addr) (n c : Nat) (l : List Int) (pr pb : Addr) (B : Option Addr) (m d : Nat) (w : World) (hr : w.cell? pr = some (.func (.func 32) #[] #[.pointer (some pb)])) (hb : w.cell? pb = some (.slice B m d)) (hm : m ≤ 9223372036854775807) (hl : II w A n l) (hn : n ≤ 9223372036854775807) : Calls Tryz.prog 64 #[.slice A n c, .func (.func 35) #[] #[.pointer (some pr)]] w fun e w' => (∃ z : Int, e = .returned (.int .i64 z) ∧ (0 ≤ z ↔ ∃ j, j < n ∧ inI m (gt l j) = false)) ∧ w' = w := by
  have hrun : ∀ (args : Array Value) (w : World), (callFunc 35 args).run Tryz.prog w = .ok (.enter 35 args) w := fun a w => by go_simp
  have HL : Sl _ := ⟨hl⟩; have HLN : Sl _ := ⟨hl.1⟩; have HO : Sl _ := ⟨fun z => outRk_any z pr pb B m d w hr hb hm⟩; clear hl hr hb; go_enter Tryz.func64, Tryz.ntmps64; go_wp2_with fail
  go_loop [5, 8] (fun s5 s8 => ∃ (k : Nat) (v5 : Value), k ≤ n ∧ s8 = .int .i64 k ∧ s5 = v5 ∧ Sl (∀ j, j < k → inI m (gt l j) = true)) (fun _ s8 => n - (RowKit.intOf s8).toNat)
  case atStart => exact ⟨0, _, Nat.zero_le _, rfl, rfl, ⟨fun j hj => absurd hj (Nat.not_lt_zero _)⟩⟩
  case round =>
    obtain ⟨k, v5, hk, rfl, rfl, HK⟩ := hrel
    by_cases hkn : k < n
    · obtain ⟨ad, rfl, hab, c1⟩ := HL.out.cell (j := k) hkn; have hlt : (k : Int) < (n : Int) := (by omega); obtain ⟨x, hx⟩ : ∃ x, gt l k = x := ⟨_, rfl⟩; rw [hx] at c1; have HX : Sl _ := ⟨hx⟩; clear hx; have HO1 := HO.out x; obtain ⟨b, hb⟩ : ∃ b, inI m x = b := ⟨_, rfl⟩; rw [hb] at HO1; have HO2 : Sl _ := ⟨HO1⟩; have HB : Sl _ := ⟨hb⟩; clear hb HO1; go_wp2_with fail; refine HO2.out.mono ?_; rintro e w1 ⟨rfl, rfl⟩
      cases b
      · go_wp2_with fail; go_ret; exact ⟨⟨_, rfl, ⟨fun _ => ⟨k, hkn, by rw [HX.out]; exact HB.out⟩, fun _ => by omega⟩⟩, rfl⟩
      · go_wp2_with fail; refine ⟨⟨k + 1, _, hkn, by go_num, rfl, ⟨fun j hj => ?_⟩⟩, by simp [RowKit.intOf]; omega⟩; rcases Nat.lt_or_ge j k with h | h
        · exact HK.out j h
        · rw [show j = k by omega, HX.out]; exact HB.out
    · obtain rfl : k = n := (by omega); go_wp2_with fail; go_ret; refine ⟨⟨-1, rfl, ⟨fun h => absurd h (by decide), ?_⟩⟩, rfl⟩; rintro ⟨j, hj, h⟩; rw [HK.out j hj] at h; cases h
end Go.Proofs.YtafadpaljanghaaGreatDoor
namespace Go.Proofs.YtafadpaljanghaaGreatDoor
set_option linter.unusedSimpArgs false
open Go.RowKit
set_option linter.unusedVariables false
def vF (num den : Int) : Prop := (1 ≤ den ∧ den ≤ 15) ∧ (1 ≤ num ∧ num ≤ 64 * den) ∧ Nat.gcd num.natAbs den.natAbs = 1
instance (a b : Int) : Decidable (vF a b) := inferInstanceAs (Decidable (_ ∧ _ ∧ _))
set_option maxHeartbeats 1600000 in
set_option maxRecDepth 100000 in
theorem wvalid_any (num den : Int) (w : World) : Calls Tryz.prog 54 #[.agg #[.int .i64 num, .int .i64 den]] w fun e w' => e = .returned (.bool (decide (vF num den))) ∧ Below w.heap.size w w' := by
  have hu : Below w.heap.size w (w.alloc (.cells #[.int .i64 num, .int .i64 den] 23)) := (Below.refl _ _).alloc (Nat.le_refl _) _; have HU : Sl _ := ⟨hu⟩; clear hu; obtain ⟨r, hr⟩ : ∃ r, decide (vF num den) = r := ⟨_, rfl⟩; rw [hr]; have HR : Sl _ := ⟨hr⟩; clear hr
  by_cases hok : (1 ≤ den ∧ den ≤ 15) ∧ (1 ≤ num ∧ num ≤ 64 * den)
  · obtain ⟨⟨h1, h2⟩, h3, h4⟩ := hok; obtain ⟨n, rfl⟩ := Int.eq_ofNat_of_zero_le (show 0 ≤ num by omega); obtain ⟨d, rfl⟩ := Int.eq_ofNat_of_zero_le (show 0 ≤ den by omega); have HG : Sl _ := ⟨fun W : World => wgcd_any n d W (by omega) (by omega)⟩
    have HV : Sl (r = (((Nat.gcd n d : Nat) : Int) == 1)) := ⟨by
      rw [← HR.out, Bool.eq_iff_iff, decide_eq_true_iff, beq_iff_eq]; unfold vF; simp only [Int.natAbs_natCast]
      omega⟩
    have hw : IntKind.i64.wrap (64 * (d : Int)) = 64 * (d : Int) := (by rw [IntKind.wrap_i64]; omega); have g1 : ¬ (d : Int) < 1 := (by omega); have g2 : ¬ 15 < (d : Int) := (by omega); have g3 : ¬ (n : Int) < 1 := (by omega); have g4 : ¬ 64 * (d : Int) < (n : Int) := (by omega); generalize Nat.gcd n d = g at *
    go_enter Tryz.func54, Tryz.ntmps54; go_wp2_with fail; refine (HG.out _).mono ?_; rintro e w1 ⟨rfl, m, rfl⟩; go_wp2_with fail; go_ret; exact ⟨by rw [HV.out]; rfl, below_drewN HU.out m⟩
  · have HV : Sl (r = false) := ⟨by
      rw [← HR.out, decide_eq_false_iff_not]; unfold vF; intro h
      exact hok ⟨h.1, h.2.1⟩⟩
    have hcase : den < 1 ∨ (¬ den < 1 ∧ 15 < den) ∨ (¬ den < 1 ∧ ¬ 15 < den ∧ num < 1) ∨ (¬ den < 1 ∧ ¬ 15 < den ∧ ¬ num < 1 ∧ 64 * den < num) := (by omega); clear hok HR; rcases hcase with h1 | ⟨h1, h2⟩ | ⟨h1, h2, h3⟩ | ⟨h1, h2, h3, h4⟩
    · have d1 : decide (1 ≤ den) = false := decide_eq_false (by omega); go_enter Tryz.func54, Tryz.ntmps54; go_wp2_with fail; go_ret; exact ⟨by rw [HV.out]; rfl, HU.out⟩
    · have d1 : decide (1 ≤ den) = true := decide_eq_true (by omega); have d2 : decide (den ≤ 15) = false := decide_eq_false (by omega); go_enter Tryz.func54, Tryz.ntmps54; go_wp2_with fail; go_ret; exact ⟨by rw [HV.out]; rfl, HU.out⟩
    · have d1 : decide (1 ≤ den) = true := decide_eq_true (by omega); have d2 : decide (den ≤ 15) = true := decide_eq_true (by omega); have d3 : decide (1 ≤ num) = false := decide_eq_false (by omega); go_enter Tryz.func54, Tryz.ntmps54; go_wp2_with fail; go_ret; exact ⟨by rw [HV.out]; rfl, HU.out⟩
    · have d1 : decide (1 ≤ den) = true := decide_eq_true (by omega); have d2 : decide (den ≤ 15) = true := decide_eq_true (by omega); have d3 : decide (1 ≤ num) = true := decide_eq_true (by omega); have hw : IntKind.i64.wrap (64 * den) = 64 * den := (by rw [IntKind.wrap_i64]; omega); have d4 : decide (num ≤ 64 * den) = false := decide_eq_false (by omega); go_enter Tryz.func54, Tryz.ntmps54; go_wp2_with fail; go_ret; exact ⟨by rw [HV.out]; rfl, HU.out⟩
end Go.Proofs.YtafadpaljanghaaGreatDoor
namespace Go.Proofs.YtafadpaljanghaaGreatDoor
set_option linter.unusedSimpArgs false
open Go.RowKit
set_option linter.unusedVariables false
def tx (u : Nat) : ByteArray := ⟨(Lib.decDigits u).toArray⟩
theorem tx_size {u : Nat} (h : u < 100) : (tx u).size ≤ 2 := by
  unfold tx; have e : (⟨(Lib.decDigits u).toArray⟩ : ByteArray).size = (Lib.decDigits u).length := (by simp [ByteArray.size]); rw [e, Lib.decDigits]
  split
  · simp
  · rw [Lib.decDigits, dif_pos (by omega)]; simp
theorem itoa_tx {u : Nat} (h : u < 100) (W : World) : Calls Tryz.prog 55 #[.int .i64 u] W fun e w' => e = .returned (.string (tx u)) ∧ w' = W := Tryz.strconv_Itoa_small u h W
set_option maxHeartbeats 3200000 in
set_option maxRecDepth 100000 in
theorem feet_any (num den : Int) (w : World) : Calls Tryz.prog 24 #[.agg #[.int .i64 num, .int .i64 den]] w fun e w' => (∃ s, e = .returned (.tuple #[.string s, .int .i64 (if vF num den then 0 else 2)])) ∧ Below w.heap.size w w' := by
  have hu : Below w.heap.size w (w.alloc (.cells #[.int .i64 num, .int .i64 den] 23)) := (Below.refl _ _).alloc (Nat.le_refl _) _; have X0 := Blk.new w 23 #[.int .i64 num, .int .i64 den]; have HV : Sl _ := ⟨fun W : World => wvalid_any num den W⟩
  by_cases hv : vF num den
  · rw [if_pos hv]; rw [decide_eq_true hv] at HV; obtain ⟨⟨h1, h2⟩, ⟨h3, h4⟩, _⟩ := hv; obtain ⟨n, rfl⟩ := Int.eq_ofNat_of_zero_le (show 0 ≤ num by omega); obtain ⟨d, rfl⟩ := Int.eq_ofNat_of_zero_le (show 0 ≤ den by omega); have hd0 : ¬ (d : Int) = 0 := (by omega); have hq : (n : Int).tdiv (d : Int) = ((n / d : Nat) : Int) := (by rw [Int.tdiv_eq_ediv_of_nonneg (by omega)]; rfl); have hr : (n : Int).tmod (d : Int) = ((n % d : Nat) : Int) := (by rw [Int.tmod_eq_emod_of_nonneg (by omega)]; rfl)
    have hq64 : n / d < 100 := by
      have : n / d ≤ 64 := (by rw [Nat.div_le_iff_le_mul_add_pred (by omega)]; omega); omega
    have hr15 : n % d < 100 := (by have := Nat.mod_lt n (show d > 0 by omega); omega); have hd15 : d < 100 := (by omega); obtain ⟨q, hqe⟩ : ∃ q, n / d = q := ⟨_, rfl⟩; obtain ⟨r, hre⟩ : ∃ r, n % d = r := ⟨_, rfl⟩; rw [hqe] at hq hq64; rw [hre] at hr hr15; have HIq : Sl _ := ⟨fun W : World => itoa_tx hq64 W⟩; have HIr : Sl _ := ⟨fun W : World => itoa_tx hr15 W⟩; have HId : Sl _ := ⟨fun W : World => itoa_tx hd15 W⟩; have sq := tx_size hq64; have sr := tx_size hr15; have sd := tx_size hd15; generalize tx q = tq at *
    generalize tx r = tr at *
    generalize tx d = td at *
    clear hqe hre h3 h4 h1 h2; go_enter Tryz.func24, Tryz.ntmps24; go_wp2_with fail; generalize w.alloc (.cells #[.int .i64 (n : Int), .int .i64 (d : Int)] 23) = w0 at *
    refine (HV.out w0).mono ?_; rintro e w1 ⟨rfl, hb⟩; have u1 := hu.trans (hb.mono hu.size); have X1 := X0.below hb X0.lt; have x0 := X1.cell 0; have x1 := X1.cell 1; simp at x0 x1; clear hu hb X0 HV; go_wp2_with fail
    go_quiet (fail)
    have u2 := below_drewN u1 nq; have X2 : Blk (w1.drewN nq) w.heap.size _ _ := X1.drewN nq; clear u1 X1 x0 x1; generalize w1.drewN nq = w2 at *
    have x0 := X2.cell 0; have x1 := X2.cell 1; simp at x0 x1; go_wp2_with fail; have hd2 : RowKit.Below w.heap.size w w2.drew := below_drewN u2 1; have xx1 : w2.drew.cell? ⟨w.heap.size, 1, none⟩ = some (.int .i64 d) := x1
    go_region_with (first
      | (go_at_call 55; (with_reducible refine (HIr.out _).mono ?_); rintro e w3 ⟨rfl, rfl⟩)
      | (go_at_call 55; (with_reducible refine (HId.out _).mono ?_); rintro e w4 ⟨rfl, rfl⟩)
      | fail)
    all_goals (
      clear x0 x1 X2 u2; generalize w2.drew = w5 at *
      by_cases hd1 : (d : Int) = 1
      · have hb1 : ((d : Int) == 1) = true := (by rw [hd1]; rfl); go_wp2_with fail; refine (HIq.out _).mono ?_; rintro e w6 ⟨rfl, rfl⟩; go_wp2_with fail; go_ret2; exact ⟨⟨_, rfl⟩, hd2⟩
      · have hb1 : ((d : Int) == 1) = false := (by rw [beq_eq_false_iff_ne]; exact hd1)
        by_cases hq0 : (q : Int) = 0
        · have hb2 : ((q : Int) == 0) = true := (by rw [hq0]; rfl); go_wp2_with fail; go_ret2; exact ⟨⟨_, rfl⟩, hd2⟩
        · have hb2 : ((q : Int) == 0) = false := (by rw [beq_eq_false_iff_ne]; exact hq0); go_wp2_with fail; refine (HIq.out _).mono ?_; rintro e w6 ⟨rfl, rfl⟩; go_wp2_with fail; go_ret2
          exact ⟨⟨_, rfl⟩, hd2⟩)
  · rw [if_neg hv]; rw [decide_eq_false hv] at HV; have HU : Sl _ := ⟨hu⟩; clear hv hu X0; go_enter Tryz.func24, Tryz.ntmps24; go_wp2_with fail; refine (HV.out _).mono ?_; rintro e w1 ⟨rfl, hb⟩; go_wp2_with fail; go_ret2; exact ⟨⟨_, rfl⟩, HU.out.trans (hb.mono HU.out.size)⟩
end Go.Proofs.YtafadpaljanghaaGreatDoor
namespace Go.Proofs.YtafadpaljanghaaGreatDoor
set_option linter.unusedSimpArgs false
open Go.RowKit
set_option linter.unusedVariables false
theorem inI_true {n : Nat} {k : Int} (h : inI n k = true) : 0 ≤ k ∧ k < (n : Int) := by
  unfold inI at h; rw [Bool.and_eq_true, decide_eq_true_eq, decide_eq_true_eq] at h; exact h
def ftE (num den : Int) : Int := if vF num den then 0 else 2
def smBad (R : List RkV) (k : Int) : Bool := inI R.length k && (ftE (R[k.toNat]?.getD rk0).num (R[k.toNat]?.getD rk0).den != 0)
set_option maxHeartbeats 3200000 in
set_option maxRecDepth 100000 in
theorem smRk_any (k : Int) (pr pb : Addr) (A : Option Addr) (n c : Nat) (R : List RkV) (w : World) (hr : w.cell? pr = some (.func (.func 32) #[] #[.pointer (some pb)])) (hb : w.cell? pb = some (.slice A n c)) (hn : n ≤ 9223372036854775807) (hR : RKS w A n R) : Calls Tryz.prog 34 #[.int .i64 k, .pointer (some pr), .pointer (some pb)] w fun e w' => e = .returned (.bool (smBad R k)) ∧ Below w.heap.size w w' := by
  have hrun : ∀ (args : Array Value) (w : World), (callFunc 32 args).run Tryz.prog w = .ok (.enter 32 args) w := fun a w => by go_simp
  have hC := inRk_any k pb A n c w hb hn; unfold smBad; rw [hR.len]
  cases hk : inI n k
  · rw [hk] at hC; have HC : Sl _ := ⟨hC⟩; clear hC hk hR; rw [Bool.false_and]; go_enter Tryz.func34, Tryz.ntmps34; go_wp2_with fail; refine HC.out.mono ?_; rintro e w1 ⟨rfl, rfl⟩; go_wp2_with fail; go_ret; exact ⟨rfl, Below.refl _ _⟩
  · rw [hk] at hC; have HC : Sl _ := ⟨hC⟩; have h2 := inI_true hk; clear hC hk; obtain ⟨i, rfl⟩ := Int.eq_ofNat_of_zero_le h2.1; have hi : i < n := (by omega); have hiI : (i : Int) < (n : Int) := h2.2; obtain ⟨ad, r, rfl, hri, _, _, c2, c3, _⟩ := hR.cells hi; rw [Bool.true_and, Int.toNat_natCast, hri, Option.getD_some]; have HS : Sl (∀ W : World, Calls Tryz.prog 24 #[.agg #[.int .i64 r.num, .int .i64 r.den]] W fun e w' => (∃ s, e = .returned (.tuple #[.string s, .int .i64 (ftE r.num r.den)])) ∧ Below W.heap.size W w') := ⟨fun W : World => feet_any r.num r.den W⟩; clear hR hri h2; obtain ⟨num, hnum⟩ : ∃ z, r.num = z := ⟨_, rfl⟩; obtain ⟨den, hden⟩ : ∃ z, r.den = z := ⟨_, rfl⟩; rw [hnum, hden] at HS ⊢; rw [hnum] at c2; rw [hden] at c3; clear hnum hden; have d2 : w.cell? ⟨(ad.add (i * 6)).block, (ad.add (i * 6)).off + 2, none⟩ = some (.int .i64 num) := c2; have d3 : w.cell? ⟨(ad.add (i * 6)).block, (ad.add (i * 6)).off + 2 + 1, none⟩ = some (.int .i64 den) := c3; clear c2 c3; obtain ⟨q2, hq2⟩ : ∃ z, ftE num den = z := ⟨_, rfl⟩; rw [hq2] at HS; rw [hq2]; clear hq2; go_enter Tryz.func34, Tryz.ntmps34; go_wp2_with fail; refine HC.out.mono ?_; rintro e w1 ⟨rfl, rfl⟩; go_wp2_with fail; refine (HS.out _).mono ?_; rintro e w2 ⟨⟨s, rfl⟩, hb2⟩; have HB2 : Sl _ := ⟨hb2⟩; clear hb2; go_wp2_with fail; go_ret; exact ⟨rfl, HB2.out⟩
def anyI (P : Int → Bool) (l : List Int) (n : Nat) : Bool := (List.range n).any fun j => P (gt l j)
theorem anyI_iff {P : Int → Bool} {l : List Int} {n : Nat} {z : Int} (h : 0 ≤ z ↔ ∃ j, j < n ∧ P (gt l j) = true) : anyI P l n = decide (0 ≤ z) := by
  unfold anyI; rw [Bool.eq_iff_iff, decide_eq_true_iff, List.any_eq_true, h]; constructor
  · rintro ⟨j, hj, hp⟩; exact ⟨j, List.mem_range.1 hj, hp⟩
  · rintro ⟨j, hj, hp⟩; exact ⟨j, List.mem_range.2 hj, hp⟩
set_option maxHeartbeats 1600000 in
set_option maxRecDepth 100000 in
theorem hasOutRk_any (A : Option Addr) (n c : Nat) (l : List Int) (pr pb : Addr) (B : Option Addr) (m d : Nat) (w : World) (hr : w.cell? pr = some (.func (.func 32) #[] #[.pointer (some pb)])) (hb : w.cell? pb = some (.slice B m d)) (hm : m ≤ 9223372036854775807) (hl : II w A n l) (hn : n ≤ 9223372036854775807) : Calls Tryz.prog 33 #[.slice A n c, .func (.func 35) #[] #[.pointer (some pr)]] w fun e w' => e = .returned (.bool (anyI (fun k => !inI m k) l n)) ∧ w' = w := by
  have HI : Sl _ := ⟨idxOutRk_any A n c l pr pb B m d w hr hb hm hl hn⟩; clear hl hr hb; obtain ⟨r, hr⟩ : ∃ r, anyI (fun k => !inI m k) l n = r := ⟨_, rfl⟩; have HR : Sl _ := ⟨hr⟩; rw [hr]; clear hr; go_enter Tryz.func33, Tryz.ntmps33; go_wp2_with fail; refine HI.out.mono ?_; rintro e w1 ⟨⟨z, rfl, hz⟩, rfl⟩
  have HV : Sl (r = decide (0 ≤ z)) := ⟨by
    rw [← HR.out]
    exact anyI_iff (hz.trans ⟨fun ⟨j, hj, h⟩ => ⟨j, hj, by simp only [h]; rfl⟩, fun ⟨j, hj, h⟩ => ⟨j, hj, by simpa using h⟩⟩)⟩
  clear hz; go_wp2_with fail; go_ret; exact ⟨by rw [HV.out]; rfl, rfl⟩
set_option maxHeartbeats 3200000 in
set_option maxRecDepth 100000 in
theorem idxSmRk_any (A : Option Addr) (n c : Nat) (l : List Int) (pr pb : Addr) (B : Option Addr) (m d : Nat) (R : List RkV) (w : World) (hpr : pr.block < w.heap.size) (hpb : pb.block < w.heap.size) (hr : w.cell? pr = some (.func (.func 32) #[] #[.pointer (some pb)])) (hb : w.cell? pb = some (.slice B m d)) (hm : m ≤ 9223372036854775807) (hR : RKS w B m R) (hl : II w A n l) (hn : n ≤ 9223372036854775807) : Calls Tryz.prog 64 #[.slice A n c, .func (.func 34) #[] #[.pointer (some pr), .pointer (some pb)]] w fun e w' => (∃ z : Int, e = .returned (.int .i64 z) ∧ (0 ≤ z ↔ ∃ j, j < n ∧ smBad R (gt l j) = true)) ∧ Below w.heap.size w w' := by
  have hrun : ∀ (args : Array Value) (w : World), (callFunc 34 args).run Tryz.prog w = .ok (.enter 34 args) w := fun a w => by go_simp
  have HL : Sl _ := ⟨hl⟩; have HLN : Sl _ := ⟨hl.1⟩; have HO : Sl (∀ (W : World), Below w.heap.size w W → ∀ z : Int, Calls Tryz.prog 34 #[.int .i64 z, .pointer (some pr), .pointer (some pb)] W fun e w' => e = .returned (.bool (smBad R z)) ∧ Below W.heap.size W w') := ⟨fun W h z => smRk_any z pr pb B m d R W (by rw [h.cell hpr]; exact hr) (by rw [h.cell hpb]; exact hb) hm (hR.below h)⟩; clear hl hr hb hR hpr hpb; go_enter Tryz.func64, Tryz.ntmps64; go_wp2_with fail
  go_loopw [5, 8] (fun s5 s8 wr => ∃ (k : Nat) (v5 : Value), k ≤ n ∧ s8 = .int .i64 k ∧ s5 = v5 ∧ Sl ((∀ j, j < k → smBad R (gt l j) = false) ∧ Below w.heap.size w wr)) (fun _ s8 _ => n - (RowKit.intOf s8).toNat)
  case atStart => exact ⟨0, _, Nat.zero_le _, rfl, rfl, ⟨fun j hj => absurd hj (Nat.not_lt_zero _), Below.refl _ _⟩⟩
  case round =>
    obtain ⟨k, v5, hk, rfl, rfl, HK⟩ := hrel
    by_cases hkn : k < n
    · obtain ⟨ad, rfl, hab, c1⟩ := (II.below HL.out HK.out.2).cell (j := k) hkn; have hlt : (k : Int) < (n : Int) := (by omega); obtain ⟨x, hx⟩ : ∃ x, gt l k = x := ⟨_, rfl⟩; rw [hx] at c1; have HX : Sl _ := ⟨hx⟩; clear hx; have HO1 := HO.out wr HK.out.2 x; obtain ⟨b, hb⟩ : ∃ b, smBad R x = b := ⟨_, rfl⟩; rw [hb] at HO1; have HO2 : Sl _ := ⟨HO1⟩; have HB : Sl _ := ⟨hb⟩; clear hb HO1; go_wp2_with fail; refine HO2.out.mono ?_; rintro e w1 ⟨rfl, hw⟩; have HW : Sl (Below w.heap.size w w1) := ⟨HK.out.2.trans (hw.mono HK.out.2.size)⟩; clear hw
      cases b
      · go_wp2_with fail; refine ⟨⟨k + 1, _, hkn, by go_num, rfl, ⟨fun j hj => ?_, HW.out⟩⟩, by simp [RowKit.intOf]; omega⟩; rcases Nat.lt_or_ge j k with h | h
        · exact HK.out.1 j h
        · rw [show j = k by omega, HX.out]; exact HB.out
      · go_wp2_with fail; go_ret; exact ⟨⟨_, rfl, ⟨fun _ => ⟨k, hkn, by rw [HX.out]; exact HB.out⟩, fun _ => by omega⟩⟩, HW.out⟩
    · obtain rfl : k = n := (by omega); go_wp2_with fail; go_ret; refine ⟨⟨-1, rfl, ⟨fun h => absurd h (by decide), ?_⟩⟩, HK.out.2⟩; rintro ⟨j, hj, h⟩; rw [HK.out.1 j hj] at h; cases h
set_option maxHeartbeats 1600000 in
set_option maxRecDepth 100000 in
theorem hasSmRk_any (A : Option Addr) (n c : Nat) (l : List Int) (pr pb : Addr) (B : Option Addr) (m d : Nat) (R : List RkV) (w : World) (hpr : pr.block < w.heap.size) (hpb : pb.block < w.heap.size) (hr : w.cell? pr = some (.func (.func 32) #[] #[.pointer (some pb)])) (hb : w.cell? pb = some (.slice B m d)) (hm : m ≤ 9223372036854775807) (hR : RKS w B m R) (hl : II w A n l) (hn : n ≤ 9223372036854775807) : Calls Tryz.prog 33 #[.slice A n c, .func (.func 34) #[] #[.pointer (some pr), .pointer (some pb)]] w fun e w' => e = .returned (.bool (anyI (smBad R) l n)) ∧ Below w.heap.size w w' := by
  have HI : Sl _ := ⟨idxSmRk_any A n c l pr pb B m d R w hpr hpb hr hb hm hR hl hn⟩; clear hl hr hb hR hpr hpb; obtain ⟨r, hr⟩ : ∃ r, anyI (smBad R) l n = r := ⟨_, rfl⟩; have HR : Sl _ := ⟨hr⟩; rw [hr]; clear hr; go_enter Tryz.func33, Tryz.ntmps33; go_wp2_with fail; refine HI.out.mono ?_; rintro e w1 ⟨⟨z, rfl, hz⟩, hw⟩; have HV : Sl (r = decide (0 ≤ z)) := ⟨by rw [← HR.out]; exact anyI_iff hz⟩; have HW : Sl _ := ⟨hw⟩; clear hz hw; go_wp2_with fail; go_ret; exact ⟨by rw [HV.out]; rfl, HW.out⟩
end Go.Proofs.YtafadpaljanghaaGreatDoor
