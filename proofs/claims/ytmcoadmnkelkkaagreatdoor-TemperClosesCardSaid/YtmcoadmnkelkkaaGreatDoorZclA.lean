/- What the rows of the laws of package ratios need: their list of tables, a world for the witness, the last step, an argument that is a ratio. Parts began as the given page's toy and as the guide's post_of_below, which its page bids to copy. Plain law: what Check tells of a temperament; names. No program in sight. Package temper, words: letters, names, the greatest common divisor; the same of the reference. Package temper: temperaments in memory; Check. (Printed by gentchk.py.) The reference of chapter 05: Check. (Printed by genr5check.py.) A temperament as an argument of a law. (Printed by genrowg.py.) Plain law: products of powers of six primes against powers of 2, as rational numbers: an ordered group. No program in sight. Plain law: what Floor, Cents and Cmp tell of products of powers of six primes. No program in sight. Plain law: Cents of a product, of two ratios in order, of a ratio without its octaves. No program in sight. Plain law: Floor and Cents of ratios without errors. No program in sight. Chapter 04: the law RatiosCents: what its calls answer, and the walk. (Printed by gencents.py.) Plain law: ratios as whole exponents over a common denominator. No program in sight. Plain law: the fifths and notes of a temperament as exponents over the common denominator of its parts. No program in sight. Plain law: octaves of exponents, notes from 1 to below 2, intervals. No program in sight. Plain law: the notes of the meantone temperament that a call of awake asks for. No program in sight. Plain law: the ratios of whole numbers that chapter 05 names, as exponents. No program in sight. Plain law: a temperament as exponents. No program in sight. Plain law: the steps of fifths, notes and intervals of a temperament. No program in sight. -/
import Derived.Test.YtmcoadmnkelkkaaGreatDoorCards
import Derived.Test.YtmcoadmnkelkkaaGreatDoorTie
import Derived.Test.YtmcoadmnkelkkaaGreatDoorRatI
import Derived.ProofKit
import Derived.OpenShut
import Derived.Deep.DeepHandedRow
import Derived.Lib.LaidTab
import Derived.Stop.LaidErr
import Derived.ChangeSame
import Derived.ChangeSlices
import Derived.Carry
import Derived.Lay
import Derived.ChangeMaps5
import Derived.Test.YtmcoadmnkelkkaaGreatDoorBase
import Derived.Test.YtmcoadmnkelkkaaGreatDoorMixG
import Derived.Test.YtmcoadmnkelkkaaGreatDoorRatH
import Derived.Deep.MidRow
import Derived.Deep.RegionHeld3
import Derived.Lib.SmallJoins
import Derived.Test.YtmcoadmnkelkkaaGreatDoorRatW
import Derived.Test.YtmcoadmnkelkkaaGreatDoorRatK
import Derived.Test.YtmcoadmnkelkkaaGreatDoorOrdA
import Derived.Test.YtmcoadmnkelkkaaGreatDoorMulA
import Derived.Test.YtmcoadmnkelkkaaGreatDoorRatN
namespace Go.Proofs.YtmcoadmnkelkkaaGreatDoor
set_option linter.unusedSimpArgs false
open Go.ChangeShapes Go.WideShapes Go.ChangeAt Go.RowKit
set_option linter.unusedVariables false
section
variable {H : Type} {enc : TypeId × Value → H} {P : Program}
theorem post_of_below {f : Func} {s : ChangeSpec} {apart fresh handsOn again : Bool} {W W' : World} {args : Array Value} {v : Value} {ds gs : List (DataW H)} {before pa pv : List MemPlace}
    (hW : DataW.Whole enc P f.params.toList s.vars apart W args.toList ds gs before)
    (hres : ∀ (b : Nat) (sp : Nat → Bool) (hd : Bool), DataW.TrodAll enc P W' b sp hd f.resultTypes.toList (v.resultList f.resultTypes.size) (s.fn H (ds ++ gs)).results [])
    (hargs : ∀ sp : Nat → Bool, (∀ p ∈ before, sp p.block = true) → DataW.TrodAll enc P W' 0 sp true f.params.toList args.toList (s.fn H (ds ++ gs)).args pa)
    (hvars : ∀ sp : Nat → Bool, (∀ p ∈ before, sp p.block = true) → DataW.TrodVars enc P W' sp s.vars (s.fn H (ds ++ gs)).vars pv)
    (hps : before = pa ++ pv) (hb : Below W.heap.size W W')
    (hok : ∀ (j : Nat) (t : TypeId) (r : Value), f.resultTypes[j]? = some t → (v.resultList f.resultTypes.size)[j]? = some r → Value.okWide P W' .any 0 t r) :
    s.post enc P f apart fresh handsOn again W args v W' := by
  have hlt : ∀ p ∈ before, p.block < W.heap.size := fun p hp => hW.lt p hp
  have hold : ∀ p ∈ before, (fun b => decide (b < W.heap.size)) p.block = true := fun p hp => by simpa using hlt p hp
  refine ⟨ds, gs, before, [], pa, pv, hW, hres _ _ _, hargs _ hold, hvars _ hold, World.keptBut_mono (fun p hp => ⟨hp, ?_⟩) (hb.frame (· ∈ before)), fun _ => ?_⟩
  · rw [hps, List.mem_append] at hp; exact Or.inr hp
  · obtain ⟨_, _, _, _, _, hz, hn⟩ := hW; refine ⟨hok, _, _, ([] ++ pa) ++ pv, ⟨[] ++ pa, pv, trodAll_append (hargs _ (fun _ _ => rfl)) (hres _ _ _), hvars _ (fun _ _ => rfl), rfl, ?_, ?_⟩, ?_⟩
    · intro b off hp; have hin : MemPlace.cell b off ∈ before := by rw [hps]; simpa using hp
      rw [hb.frozen (hlt _ hin)]; exact hz b off hin
    · intro ha; have := hn ha; rw [hps] at this; simpa using this
    · intro p hp _; rw [hps]; simpa using hp
end
theorem ownK : ownKnob Tryz.prog.godebug = none := by kernel_rfl
theorem laidO : laidOutB Tryz.prog = true := by kernel_rfl
theorem tabR_eq : (Rows.laid_quintadena_ratios_primes : DataW Unit) = Lib.tabData .i64 [2, 3, 5, 7, 11, 13] := by kernel_rfl
/-- the list of the rows of this package -/
def laidLR : List (String × DataW Unit) := [("quintadena/ratios.primes", Rows.laid_quintadena_ratios_primes)]
theorem laidLR_pr {W : World} (h : laidMetH Tryz.prog laidLR W) : PrT W := by
  have h1 : laidMet Tryz.prog laidLR W := h; have h2 := h1; unfold laidLR at h2; rw [tabR_eq] at h2
  obtain ⟨t, e, n, hty, ht, he, hce, hct⟩ : ∃ t e n, (Tryz.prog.globals[0]?).map (·.type) = some t ∧ Tryz.prog.underlying t = some (.array n e) ∧ Tryz.prog.underlying e = some (.int .i64) ∧ Tryz.prog.cellsOf e = 1 ∧ Tryz.prog.cellsOf t = n :=
    ⟨73, 2, 6, by kernel_rfl, by kernel_rfl, by kernel_rfl, by kernel_rfl, by kernel_rfl⟩
  exact Lib.tabIs_of_head gPr hty ht he hce hct h2
noncomputable def laidWorldR (os : Os) : World := World.laidAll Tryz.prog os laidLR
theorem laid_metR (os : Os) (args : Array Value) : laidMet Tryz.prog laidLR ((laidWorldR os).forCall (fun _ _ => 0) ⟨#[], args, []⟩).memory :=
  laidMet_laidAll args (by kernel_rfl) (by kernel_rfl)
/-- such an argument reads as it did -/
theorem stays {H : Type} {enc : TypeId × Value → H} {t : TypeId} (hr : Tryz.prog.readableRec t = true) (hrow : t < Tryz.prog.types.size) {W W' : World} {v : Value} {d : DataW H} {ps : List MemPlace} (h : DataW.Trod enc Tryz.prog W 0 (fun _ => true) true t v d ps) (hb : Below W.heap.size W W') (hlt : ∀ x ∈ ps, x.block < W.heap.size) (sp : Nat → Bool) (hsp : ∀ x ∈ ps, sp x.block = true) :
    DataW.Trod enc Tryz.prog W' 0 sp true t v d ps := WideElems.Trod_stays laidO hr hrow h (fun x hx => hb.same (hlt x hx)) (fun x hx => hsp x hx)
end Go.Proofs.YtmcoadmnkelkkaaGreatDoor
namespace Go.Proofs.YtmcoadmnkelkkaaGreatDoor
set_option linter.unusedSimpArgs false
set_option linter.unusedVariables false
/-- a temperament as a value -/
structure TV where
  nm : ByteArray
  syn : Bool
  wolf : Int
  num : Nat → Int
  den : Nat → Int
def TV.bad (t : TV) (i : Nat) : Prop := t.den i < 1 ∨ 24 < t.den i ∨ t.num i < -2 * t.den i ∨ 2 * t.den i < t.num i
def TV.low (t : TV) (i : Nat) : Prop := Nat.gcd (t.num i).natAbs (t.den i).natAbs = 1
/-- the common denominator of the first parts, as far as it is not too great -/
def TV.all (t : TV) : Nat → Nat
  | 0 => 1
  | i+1 => if t.all i ≤ 120 then t.all i / Nat.gcd (t.all i) (t.den i).natAbs * (t.den i).natAbs else t.all i
open Classical in
/-- what Check returns -/
noncomputable def TV.chk (nameS : ByteArray → Bool) (t : TV) : Int :=
  if t.wolf < 0 ∨ 11 < t.wolf then 2 else
  if ∃ i, i < 12 ∧ t.bad i then 2 else
  if nameS t.nm = false ∨ (∃ i, i < 12 ∧ ¬ t.low i) ∨ t.num t.wolf.toNat ≠ 0 then 6 else
  if 120 < t.all 12 then 7 else 0
theorem TV.chk_ok {N : ByteArray → Bool} {t : TV} (h : t.chk N = 0) : (0 ≤ t.wolf ∧ t.wolf ≤ 11) ∧ (∀ i, i < 12 → ¬ t.bad i) ∧ N t.nm = true ∧ (∀ i, i < 12 → t.low i) ∧ t.num t.wolf.toNat = 0 ∧ t.all 12 ≤ 120 := by
  unfold TV.chk at h
  split at h
  · exact absurd h (by decide)
  · rename_i h1
    split at h
    · exact absurd h (by decide)
    · rename_i h2
      split at h
      · exact absurd h (by decide)
      · rename_i h3
        split at h
        · exact absurd h (by decide)
        · rename_i h4; refine ⟨by omega, fun i hi hb => h2 ⟨i, hi, hb⟩, ?_, fun i hi => ?_, ?_, by omega⟩
          · cases hN : N t.nm
            · exact absurd (.inl hN) h3
            · rfl
          · exact Classical.byContradiction fun hn => h3 (.inr (.inl ⟨i, hi, hn⟩))
          · exact Classical.byContradiction fun hn => h3 (.inr (.inr hn))
theorem TV.all_pos {t : TV} (h : ∀ i, i < 12 → ¬ t.bad i) : ∀ i, i ≤ 12 → 0 < t.all i
  | 0, _ => Nat.one_pos
  | i+1, hi => by
    have ih := TV.all_pos h i (by omega); have hb := h i (by omega); have hd : 0 < (t.den i).natAbs := by unfold TV.bad at hb; omega
    rw [TV.all]
    split
    · exact Nat.mul_pos (Nat.div_pos (Nat.le_of_dvd ih (Nat.gcd_dvd_left _ _)) (Nat.gcd_pos_of_pos_left _ ih)) hd
    · exact ih
theorem TV.all_mono {t : TV} (h : ∀ i, i < 12 → ¬ t.bad i) {i : Nat} (hi : i < 12) : (120 < t.all i → 120 < t.all (i + 1)) ∧ (t.all i ≤ 120 → t.all i ∣ t.all (i + 1) ∧ (t.den i).natAbs ∣ t.all (i + 1)) := by
  have hp := TV.all_pos h i (by omega); rw [TV.all]; refine ⟨fun h1 => ?_, fun h1 => ?_⟩
  · rw [if_neg (by omega)]; exact h1
  · rw [if_pos h1]; refine ⟨?_, Nat.dvd_mul_left _ _⟩; obtain ⟨c, hc⟩ := Nat.gcd_dvd_right (t.all i) (t.den i).natAbs
    have h2 : t.all i / Nat.gcd (t.all i) (t.den i).natAbs * (t.den i).natAbs = t.all i * c := by
      conv => lhs; rhs; rw [hc]
      rw [← Nat.mul_assoc, Nat.div_mul_cancel (Nat.gcd_dvd_left _ _)]
    rw [h2]; exact Nat.dvd_mul_right _ _
theorem TV.all_dvd {t : TV} (h : ∀ i, i < 12 → ¬ t.bad i) : ∀ n, n ≤ 12 → t.all n ≤ 120 → ∀ i, i < n → (t.den i).natAbs ∣ t.all n
  | 0, _, _, i, hi => absurd hi (Nat.not_lt_zero _)
  | n+1, hn, h1, i, hi => by
    obtain ⟨m1, m2⟩ := TV.all_mono h (i := n) (by omega)
    have h2 : t.all n ≤ 120 := by
      rcases Nat.lt_or_ge 120 (t.all n) with g | g
      · exact absurd (m1 g) (by omega)
      · exact g
    obtain ⟨d1, d2⟩ := m2 h2; rcases Nat.lt_or_ge i n with g | g
    · exact Nat.dvd_trans (TV.all_dvd h n (by omega) h2 i g) d1
    · obtain rfl : i = n := by omega
      exact d2
/-- names -/
def letB (b : UInt8) : Bool := (decide (65 ≤ b.toNat) && decide (b.toNat ≤ 90)) || (decide (97 ≤ b.toNat) && decide (b.toNat ≤ 122))
def okB (i : Nat) (b : UInt8) : Bool := letB b || (decide (i ≠ 0) && (decide (b.toNat = 95) || (decide (48 ≤ b.toNat) && decide (b.toNat ≤ 57))))
def nameS (s : ByteArray) : Bool := decide ((1 ≤ s.size ∧ s.size ≤ 16) ∧ ∀ i, (h : i < s.size) → okB i s[i] = true)
end Go.Proofs.YtmcoadmnkelkkaaGreatDoor
namespace Go.Proofs.YtmcoadmnkelkkaaGreatDoor
set_option linter.unusedSimpArgs false
open Go.RowKit
set_option linter.unusedVariables false
def letN (n : Nat) : Bool := (decide (65 ≤ n) && decide (n ≤ 90)) || (decide (97 ≤ n) && decide (n ≤ 122))
theorem or_let0 : ∀ n : Nat, n < 256 → (decide (97 ≤ bits BinOp.or IntKind.u8 (n : Int) 32) && decide (bits BinOp.or IntKind.u8 (n : Int) 32 ≤ 122)) = letN n := by decide +kernel
theorem or_let (b : UInt8) : (decide (97 ≤ bits BinOp.or IntKind.u8 (b.toNat : Int) 32) && decide (bits BinOp.or IntKind.u8 (b.toNat : Int) 32 ≤ 122)) = letB b := or_let0 b.toNat b.toNat_lt
theorem letter_any (b : UInt8) (w : World) : Calls Tryz.prog 107 #[.int .u8 (b.toNat : Int)] w fun e w' => e = .returned (.bool (letB b)) ∧ w' = w := by
  have HO : Sl _ := ⟨or_let b⟩; go_enter Tryz.func107, Tryz.ntmps107; go_wp2_with fail
  all_goals (go_ret; rw [← HO.out])
  · rename_i h; rw [decide_eq_true (p := 97 ≤ _) h, Bool.true_and]; exact ⟨rfl, rfl⟩
  · rename_i h; rw [decide_eq_false (p := 97 ≤ _) (by omega), Bool.false_and]; exact ⟨rfl, rfl⟩
theorem digit_any (b : UInt8) (w : World) : Calls Tryz.prog 108 #[.int .u8 (b.toNat : Int)] w fun e w' => e = .returned (.bool (decide (48 ≤ b.toNat) && decide (b.toNat ≤ 57))) ∧ w' = w := by
  by_cases h : 48 ≤ b.toNat
  · have hb : decide ((48 : Int) ≤ (b.toNat : Int)) = true := by rw [decide_eq_true_iff]; omega
    go_enter Tryz.func108, Tryz.ntmps108; go_wp2_with fail; go_ret; rw [decide_eq_true h, Bool.true_and]
    by_cases h2 : b.toNat ≤ 57
    · rw [decide_eq_true h2, decide_eq_true (by omega)]; exact ⟨rfl, rfl⟩
    · rw [decide_eq_false h2, decide_eq_false (by omega)]; exact ⟨rfl, rfl⟩
  · have hb : decide ((48 : Int) ≤ (b.toNat : Int)) = false := by rw [decide_eq_false_iff_not]; omega
    go_enter Tryz.func108, Tryz.ntmps108; go_wp2_with fail; go_ret; rw [decide_eq_false h, Bool.false_and]; exact ⟨rfl, rfl⟩
set_option maxHeartbeats 800000 in
theorem tgcd_any (a b : Nat) (w : World) (ha : a < 4000000000000000000) (hb : b < 4000000000000000000) :
    Calls Tryz.prog 79 #[.int .i64 a, .int .i64 b] w fun e w' => e = .returned (.int .i64 (Nat.gcd a b)) ∧ ∃ m, w' = w.drewN m := by
  go_enter Tryz.func79, Tryz.ntmps79; go_wp2_with fail
  go_loopw [0, 1] (fun s0 s1 wr => ∃ (x y : Nat), s0 = .int .i64 x ∧ s1 = .int .i64 y ∧ x < 4000000000000000000 ∧ y < 4000000000000000000 ∧ Sl (Nat.gcd x y = Nat.gcd a b ∧ ∃ m, wr = w.drewN m)) (fun _ s1 _ => (RowKit.intOf s1).toNat)
  case atStart => exact ⟨a, b, rfl, rfl, ha, hb, ⟨rfl, 0, rfl⟩⟩
  case round =>
    clear ha hb; obtain ⟨x, y, rfl, rfl, hx, hy, HG⟩ := hrel; rcases Nat.eq_zero_or_pos y with h0 | h0
    · subst h0; go_wp2_with fail; go_ret; obtain ⟨h1, m, h2⟩ := HG.out; rw [Nat.gcd_zero_right] at h1; exact ⟨by rw [← h1]; rfl, m, h2⟩
    · have hne : ((y : Int) == 0) = false := by rw [beq_eq_false_iff_ne]; omega
      have hmod : (x : Int).tmod (y : Int) = ((x % y : Nat) : Int) := by rw [Int.tmod_eq_emod_of_nonneg (by omega)]; omega
      have hlt : x % y < y := Nat.mod_lt _ h0; have HGN : Sl (Nat.gcd y (x % y) = Nat.gcd a b) := ⟨by rw [← HG.out.1, Nat.gcd_comm y, ← Nat.gcd_rec, Nat.gcd_comm]⟩; generalize x % y = r at *
      go_wp2_with fail
      go_quiet (fail)
      go_wp2_with fail; obtain ⟨m, hm⟩ := HG.out.2; refine ⟨⟨y, r, rfl, rfl, hy, by omega, ⟨HGN.out, m + nq, by rw [hm]; simp⟩⟩, by simp [RowKit.intOf]; omega⟩
set_option maxHeartbeats 800000 in
theorem r5gcd_any (a b : Nat) (w : World) (ha : a < 4000000000000000000) (hb : b < 4000000000000000000) :
    Calls Tryz.prog 40 #[.int .i64 a, .int .i64 b] w fun e w' => e = .returned (.int .i64 (Nat.gcd a b)) ∧ ∃ m, w' = w.drewN m := by
  go_enter Tryz.func40, Tryz.ntmps40; go_wp2_with fail
  go_loopw [0, 1] (fun s0 s1 wr => ∃ (x y : Nat), s0 = .int .i64 x ∧ s1 = .int .i64 y ∧ x < 4000000000000000000 ∧ y < 4000000000000000000 ∧ Sl (Nat.gcd x y = Nat.gcd a b ∧ ∃ m, wr = w.drewN m)) (fun _ s1 _ => (RowKit.intOf s1).toNat)
  case atStart => exact ⟨a, b, rfl, rfl, ha, hb, ⟨rfl, 0, rfl⟩⟩
  case round =>
    clear ha hb; obtain ⟨x, y, rfl, rfl, hx, hy, HG⟩ := hrel; rcases Nat.eq_zero_or_pos y with h0 | h0
    · subst h0; go_wp2_with fail; go_ret; obtain ⟨h1, m, h2⟩ := HG.out; rw [Nat.gcd_zero_right] at h1; exact ⟨by rw [← h1]; rfl, m, h2⟩
    · have hne : ((y : Int) == 0) = false := by rw [beq_eq_false_iff_ne]; omega
      have hmod : (x : Int).tmod (y : Int) = ((x % y : Nat) : Int) := by rw [Int.tmod_eq_emod_of_nonneg (by omega)]; omega
      have hlt : x % y < y := Nat.mod_lt _ h0; have HGN : Sl (Nat.gcd y (x % y) = Nat.gcd a b) := ⟨by rw [← HG.out.1, Nat.gcd_comm y, ← Nat.gcd_rec, Nat.gcd_comm]⟩; generalize x % y = r at *
      go_wp2_with fail
      go_quiet (fail)
      go_wp2_with fail; obtain ⟨m, hm⟩ := HG.out.2; refine ⟨⟨y, r, rfl, rfl, hy, by omega, ⟨HGN.out, m + nq, by rw [hm]; simp⟩⟩, by simp [RowKit.intOf]; omega⟩
theorem nameS_false {s : ByteArray} {k : Nat} (hk : k < s.size) (h : okB k s[k] = false) : nameS s = false := by
  unfold nameS; rw [decide_eq_false_iff_not]; rintro ⟨_, h2⟩; rw [h2 k hk] at h
  cases h
theorem nameS_size {s : ByteArray} (h : s.size < 1 ∨ 16 < s.size) : nameS s = false := by
  unfold nameS; rw [decide_eq_false_iff_not]; rintro ⟨h1, _⟩; omega
theorem nameS_true {s : ByteArray} (h : 1 ≤ s.size ∧ s.size ≤ 16) (h2 : ∀ i, (h : i < s.size) → okB i s[i] = true) : nameS s = true := by
  unfold nameS; rw [decide_eq_true_iff]; exact ⟨h, h2⟩
set_option maxHeartbeats 1600000 in
set_option maxRecDepth 100000 in
theorem name_any (s : ByteArray) (w : World) (hs : s.size ≤ maxLen) : Calls Tryz.prog 80 #[.string s] w fun e w' => e = .returned (.bool (nameS s)) ∧ Below w.heap.size w w' := by
  unfold maxLen at hs; go_enter Tryz.func80, Tryz.ntmps80; go_wp2_with fail
  go_loopw [7] (fun s7 wr => ∃ k : Nat, k ≤ s.size ∧ s7 = .int .i64 k ∧ Sl (∀ i, (h : i < s.size) → i < k → okB i s[i] = true) ∧ Below w.heap.size w wr) (fun s7 _ => s.size - (RowKit.intOf s7).toNat)
  case atStart => exact ⟨0, Nat.zero_le _, rfl, ⟨fun i _ h => absurd h (Nat.not_lt_zero _)⟩, Below.refl _ _⟩
  case round =>
    obtain ⟨k, hk, rfl, HV, hB⟩ := hrel
    by_cases hlt : k < s.size
    · have HL : Sl (∀ W : World, Calls Tryz.prog 107 #[.int .u8 (s[k].toNat : Int)] W fun e w' => e = .returned (.bool (letB s[k])) ∧ w' = W) := ⟨fun W => letter_any s[k] W⟩; have HD : Sl (∀ W : World, Calls Tryz.prog 108 #[.int .u8 (s[k].toNat : Int)] W fun e w' => e = .returned (.bool (decide (48 ≤ s[k].toNat) && decide (s[k].toNat ≤ 57))) ∧ w' = W) := ⟨fun W => digit_any s[k] W⟩; have hb8 : (s[k].toNat : Int) < 256 := by have := s[k].toNat_lt; omega
      have HOK : Sl (okB k s[k] = (letB s[k] || (decide (k ≠ 0) && (decide (s[k].toNat = 95) || (decide (48 ≤ s[k].toNat) && decide (s[k].toNat ≤ 57)))))) := ⟨rfl⟩
      have HNX : Sl (okB k s[k] = true → ∀ i, (h : i < s.size) → i < k + 1 → okB i s[i] = true) := ⟨fun h i hi h2 => by
        rcases Nat.lt_or_ge i k with g | g
        · exact HV.out i hi g
        · obtain rfl : i = k := by omega
          exact h⟩
      have HNF : Sl (okB k s[k] = false → nameS s = false) := ⟨fun h => nameS_false hlt h⟩; clear HV; generalize hL : letB s[k] = L at *
      generalize (decide (48 ≤ s[k].toNat) && decide (s[k].toNat ≤ 57)) = D at *
      clear hL; go_wp2_with fail; refine (HL.out _).mono ?_; rintro e w1 ⟨rfl, rfl⟩
      cases L
      · -- no letter
        by_cases h0 : k = 0
        · subst h0; have HF := HNF.out (by rw [HOK.out]; rfl); have HFS : Sl _ := ⟨HF⟩; clear HF HNF HNX HOK; go_wp2_with fail; go_ret; rw [HFS.out]; exact ⟨rfl, hB⟩
        · have hk0 : ((k : Int) == 0) = false := by rw [beq_eq_false_iff_ne]; omega
          by_cases h5 : s[k].toNat = 95
          · have hT := HNX.out (by rw [HOK.out, decide_eq_true h0, decide_eq_true h5]; rfl); have HT : Sl _ := ⟨hT⟩; have h95 : ((s[k].toNat : Int) != 95) = false := by rw [bne_eq_false_iff_eq]; omega
            clear hT HNF HNX HOK h5; go_wp2_with fail; exact ⟨⟨k + 1, hlt, by go_num, HT, hB⟩, by simp [RowKit.intOf]; try omega⟩
          · have h95 : ((s[k].toNat : Int) != 95) = true := by rw [bne_iff_ne]; omega
            cases D
            · have HF := HNF.out (by rw [HOK.out, decide_eq_false h5, Bool.or_false, Bool.and_false]; rfl); have HFS : Sl _ := ⟨HF⟩; clear HF HNF HNX HOK h5; go_wp2_with fail; refine (HD.out _).mono ?_; rintro e w1 ⟨rfl, rfl⟩; go_wp2_with fail; go_ret; rw [HFS.out]; exact ⟨rfl, hB⟩
            · have hT := HNX.out (by rw [HOK.out, decide_eq_true h0, Bool.or_true]; rfl); have HT : Sl _ := ⟨hT⟩; clear hT HNF HNX HOK h5; go_wp2_with fail; refine (HD.out _).mono ?_; rintro e w1 ⟨rfl, rfl⟩; go_wp2_with fail; exact ⟨⟨k + 1, hlt, by go_num, HT, hB⟩, by simp [RowKit.intOf]; try omega⟩
      · have hT := HNX.out (by rw [HOK.out]; rfl); have HT : Sl _ := ⟨hT⟩; clear hT HNF HNX HOK; go_wp2_with fail; exact ⟨⟨k + 1, hlt, by go_num, HT, hB⟩, by simp [RowKit.intOf]; try omega⟩
    · have hke : k = s.size := by omega
      by_cases h1 : 1 ≤ s.size
      · by_cases h2 : s.size ≤ 16
        · have HF : Sl (nameS s = true) := ⟨nameS_true ⟨h1, h2⟩ fun i hi => HV.out i hi (by omega)⟩; clear HV; have hd : decide ((s.size : Int) ≤ 16) = true := by rw [decide_eq_true_iff]; omega
          go_wp2_with fail; go_ret; rw [HF.out]; exact ⟨rfl, hB⟩
        · have HF : Sl (nameS s = false) := ⟨nameS_size (.inr (by omega))⟩; clear HV; have hd : decide ((s.size : Int) ≤ 16) = false := by rw [decide_eq_false_iff_not]; omega
          go_wp2_with fail; go_ret; rw [HF.out]; exact ⟨rfl, hB⟩
      · have HF : Sl (nameS s = false) := ⟨nameS_size (.inl (by omega))⟩; clear HV; go_wp2_with fail; go_ret; rw [HF.out]; exact ⟨rfl, hB⟩
theorem r1letter_any (b : UInt8) (w : World) : Calls Tryz.prog 77 #[.int .u8 (b.toNat : Int)] w fun e w' => e = .returned (.bool (letB b)) ∧ w' = w := by
  by_cases h1 : 97 ≤ b.toNat
  · have b1 : decide ((97 : Int) ≤ (b.toNat : Int)) = true := by rw [decide_eq_true_iff]; omega
    by_cases h2 : b.toNat ≤ 122
    · have b2 : decide ((b.toNat : Int) ≤ 122) = true := by rw [decide_eq_true_iff]; omega
      have HF : Sl (letB b = true) := ⟨by unfold letB; rw [decide_eq_true h1, decide_eq_true h2]; simp⟩; clear h1 h2; go_enter Tryz.func77, Tryz.ntmps77; go_wp2_with fail; go_ret; rw [HF.out]; exact ⟨rfl, rfl⟩
    · have b2 : decide ((b.toNat : Int) ≤ 122) = false := by rw [decide_eq_false_iff_not]; omega
      have b3 : decide ((65 : Int) ≤ (b.toNat : Int)) = true := by rw [decide_eq_true_iff]; omega
      have b4 : decide ((b.toNat : Int) ≤ 90) = false := by rw [decide_eq_false_iff_not]; omega
      have HF : Sl (letB b = false) := ⟨by unfold letB; rw [decide_eq_false h2, decide_eq_false (p := b.toNat ≤ 90) (by omega)]; simp⟩; clear h1 h2; go_enter Tryz.func77, Tryz.ntmps77; go_wp2_with fail; go_ret; rw [HF.out]; exact ⟨rfl, rfl⟩
  · have b1 : decide ((97 : Int) ≤ (b.toNat : Int)) = false := by rw [decide_eq_false_iff_not]; omega
    by_cases h3 : 65 ≤ b.toNat
    · have b3 : decide ((65 : Int) ≤ (b.toNat : Int)) = true := by rw [decide_eq_true_iff]; omega
      by_cases h4 : b.toNat ≤ 90
      · have b4 : decide ((b.toNat : Int) ≤ 90) = true := by rw [decide_eq_true_iff]; omega
        have HF : Sl (letB b = true) := ⟨by unfold letB; rw [decide_eq_true h3, decide_eq_true h4]; simp⟩; clear h1 h3 h4; go_enter Tryz.func77, Tryz.ntmps77; go_wp2_with fail; go_ret; rw [HF.out]; exact ⟨rfl, rfl⟩
      · have b4 : decide ((b.toNat : Int) ≤ 90) = false := by rw [decide_eq_false_iff_not]; omega
        have HF : Sl (letB b = false) := ⟨by unfold letB; rw [decide_eq_false h4, decide_eq_false h1]; simp⟩; clear h1 h3 h4; go_enter Tryz.func77, Tryz.ntmps77; go_wp2_with fail; go_ret; rw [HF.out]; exact ⟨rfl, rfl⟩
    · have b3 : decide ((65 : Int) ≤ (b.toNat : Int)) = false := by rw [decide_eq_false_iff_not]; omega
      have HF : Sl (letB b = false) := ⟨by unfold letB; rw [decide_eq_false h3, decide_eq_false h1]; simp⟩; clear h1 h3; go_enter Tryz.func77, Tryz.ntmps77; go_wp2_with fail; go_ret; rw [HF.out]; exact ⟨rfl, rfl⟩
theorem r1digit_any (b : UInt8) (w : World) : Calls Tryz.prog 78 #[.int .u8 (b.toNat : Int)] w fun e w' => e = .returned (.bool (decide (48 ≤ b.toNat) && decide (b.toNat ≤ 57))) ∧ w' = w := by
  by_cases h : 48 ≤ b.toNat
  · have hb : decide ((48 : Int) ≤ (b.toNat : Int)) = true := by rw [decide_eq_true_iff]; omega
    go_enter Tryz.func78, Tryz.ntmps78; go_wp2_with fail; go_ret; rw [decide_eq_true h, Bool.true_and]
    by_cases h2 : b.toNat ≤ 57
    · rw [decide_eq_true h2, decide_eq_true (by omega)]; exact ⟨rfl, rfl⟩
    · rw [decide_eq_false h2, decide_eq_false (by omega)]; exact ⟨rfl, rfl⟩
  · have hb : decide ((48 : Int) ≤ (b.toNat : Int)) = false := by rw [decide_eq_false_iff_not]; omega
    go_enter Tryz.func78, Tryz.ntmps78; go_wp2_with fail; go_ret; rw [decide_eq_false h, Bool.false_and]; exact ⟨rfl, rfl⟩
set_option maxHeartbeats 1600000 in
set_option maxRecDepth 100000 in
theorem r1name_any (s : ByteArray) (w : World) (hs : s.size ≤ maxLen) : Calls Tryz.prog 39 #[.string s] w fun e w' => e = .returned (.bool (nameS s)) ∧ Below w.heap.size w w' := by
  unfold maxLen at hs
  by_cases h1 : s.size < 1
  · have HF : Sl (nameS s = false) := ⟨nameS_size (.inl h1)⟩; go_enter Tryz.func39, Tryz.ntmps39; go_wp2_with fail; go_ret; rw [HF.out]; exact ⟨rfl, Below.refl _ _⟩
  by_cases h2 : 16 < s.size
  · have HF : Sl (nameS s = false) := ⟨nameS_size (.inr h2)⟩; go_enter Tryz.func39, Tryz.ntmps39; go_wp2_with fail; go_ret; rw [HF.out]; exact ⟨rfl, Below.refl _ _⟩
  have h0 : 0 < s.size := by omega
  have HL0 : Sl (∀ W : World, Calls Tryz.prog 77 #[.int .u8 (s[0].toNat : Int)] W fun e w' => e = .returned (.bool (letB s[0])) ∧ w' = W) := ⟨fun W => r1letter_any s[0] W⟩; have HOK0 : Sl (okB 0 s[0] = letB s[0]) := ⟨by unfold okB; simp⟩; have HF0 : Sl (okB 0 s[0] = false → nameS s = false) := ⟨fun h => nameS_false h0 h⟩; generalize hL : letB s[0] = L at *
  go_enter Tryz.func39, Tryz.ntmps39; go_wp2_with fail; refine (HL0.out _).mono ?_; rintro e w1 ⟨rfl, rfl⟩
  cases L
  · have HF : Sl _ := ⟨HF0.out HOK0.out⟩; clear HF0 HOK0 hL; go_wp2_with fail; go_ret; rw [HF.out]; exact ⟨rfl, Below.refl _ _⟩
  have HLT : Sl (letB s[0] = true) := ⟨hL⟩; clear hL HF0 HOK0 HL0; go_wp2_with fail
  go_loopw [3] (fun s3 wr => ∃ k : Nat, k ≤ s.size ∧ s3 = .int .i64 k ∧ Sl (∀ i, (h : i < s.size) → i < k → okB i s[i] = true) ∧ Below w1.heap.size w1 wr) (fun s3 _ => s.size - (RowKit.intOf s3).toNat)
  case atStart => exact ⟨0, Nat.zero_le _, rfl, ⟨fun i _ h => absurd h (Nat.not_lt_zero _)⟩, Below.refl _ _⟩
  case round =>
    obtain ⟨k, hk, rfl, HV, hB⟩ := hrel
    by_cases hlt : k < s.size
    · have HL : Sl (∀ W : World, Calls Tryz.prog 77 #[.int .u8 (s[k].toNat : Int)] W fun e w' => e = .returned (.bool (letB s[k])) ∧ w' = W) := ⟨fun W => r1letter_any s[k] W⟩; have HD : Sl (∀ W : World, Calls Tryz.prog 78 #[.int .u8 (s[k].toNat : Int)] W fun e w' => e = .returned (.bool (decide (48 ≤ s[k].toNat) && decide (s[k].toNat ≤ 57))) ∧ w' = W) := ⟨fun W => r1digit_any s[k] W⟩; have hb8 : (s[k].toNat : Int) < 256 := by have := s[k].toNat_lt; omega
      have HOK : Sl (okB k s[k] = (letB s[k] || (decide (k ≠ 0) && (decide (s[k].toNat = 95) || (decide (48 ≤ s[k].toNat) && decide (s[k].toNat ≤ 57)))))) := ⟨rfl⟩
      have HNX : Sl (okB k s[k] = true → ∀ i, (h : i < s.size) → i < k + 1 → okB i s[i] = true) := ⟨fun h i hi h2 => by
        rcases Nat.lt_or_ge i k with g | g
        · exact HV.out i hi g
        · obtain rfl : i = k := by omega
          exact h⟩
      have HNF : Sl (okB k s[k] = false → nameS s = false) := ⟨fun h => nameS_false hlt h⟩; have HK0 : Sl (letB s[k] = false → k ≠ 0) := ⟨fun h h2 => by subst h2; rw [HLT.out] at h; cases h⟩; clear HV; generalize hL : letB s[k] = L at *
      generalize (decide (48 ≤ s[k].toNat) && decide (s[k].toNat ≤ 57)) = D at *
      clear hL; go_wp2_with fail; refine (HL.out _).mono ?_; rintro e w2 ⟨rfl, rfl⟩
      cases L
      · have h0 := HK0.out rfl; clear HK0
        cases D
        · by_cases h5 : s[k].toNat = 95
          · have hT := HNX.out (by rw [HOK.out, decide_eq_true h0, decide_eq_true h5]; rfl); have HT : Sl _ := ⟨hT⟩; have h95 : ((s[k].toNat : Int) != 95) = false := by rw [bne_eq_false_iff_eq]; omega
            clear hT HNF HNX HOK h5; go_wp2_with fail; refine (HD.out _).mono ?_; rintro e w3 ⟨rfl, rfl⟩; go_wp2_with fail; exact ⟨⟨k + 1, hlt, by go_num, HT, hB⟩, by simp [RowKit.intOf]; try omega⟩
          · have h95 : ((s[k].toNat : Int) != 95) = true := by rw [bne_iff_ne]; omega
            have HF := HNF.out (by rw [HOK.out, decide_eq_false h5, Bool.or_false, Bool.and_false]; rfl); have HFS : Sl _ := ⟨HF⟩; clear HF HNF HNX HOK h5; go_wp2_with fail; refine (HD.out _).mono ?_; rintro e w3 ⟨rfl, rfl⟩; go_wp2_with fail; go_ret; rw [HFS.out]; exact ⟨rfl, hB⟩
        · have hT := HNX.out (by rw [HOK.out, decide_eq_true h0, Bool.or_true]; rfl); have HT : Sl _ := ⟨hT⟩; clear hT HNF HNX HOK; go_wp2_with fail; refine (HD.out _).mono ?_; rintro e w3 ⟨rfl, rfl⟩; go_wp2_with fail; exact ⟨⟨k + 1, hlt, by go_num, HT, hB⟩, by simp [RowKit.intOf]; try omega⟩
      · have hT := HNX.out (by rw [HOK.out]; rfl); have HT : Sl _ := ⟨hT⟩; clear hT HNF HNX HOK HK0; go_wp2_with fail; exact ⟨⟨k + 1, hlt, by go_num, HT, hB⟩, by simp [RowKit.intOf]; try omega⟩
    · have hke : k = s.size := by omega
      have HF : Sl (nameS s = true) := ⟨nameS_true ⟨by omega, by omega⟩ fun i hi => HV.out i hi (by omega)⟩; clear HV; go_wp2_with fail; go_ret; rw [HF.out]; exact ⟨rfl, hB⟩
end Go.Proofs.YtmcoadmnkelkkaaGreatDoor
namespace Go.Proofs.YtmcoadmnkelkkaaGreatDoor
set_option linter.unusedSimpArgs false
open Go.RowKit
set_option linter.unusedVariables false
def TV.parts (t : TV) : Array Value := #[.int .i64 (t.num 0), .int .i64 (t.den 0), .int .i64 (t.num 1), .int .i64 (t.den 1), .int .i64 (t.num 2), .int .i64 (t.den 2), .int .i64 (t.num 3), .int .i64 (t.den 3), .int .i64 (t.num 4), .int .i64 (t.den 4), .int .i64 (t.num 5), .int .i64 (t.den 5), .int .i64 (t.num 6), .int .i64 (t.den 6), .int .i64 (t.num 7), .int .i64 (t.den 7), .int .i64 (t.num 8), .int .i64 (t.den 8), .int .i64 (t.num 9), .int .i64 (t.den 9), .int .i64 (t.num 10), .int .i64 (t.den 10), .int .i64 (t.num 11), .int .i64 (t.den 11)]
def TV.cells (t : TV) : Array Value := #[.string t.nm, .bool t.syn, .int .i64 t.wolf, .int .i64 (t.num 0), .int .i64 (t.den 0), .int .i64 (t.num 1), .int .i64 (t.den 1), .int .i64 (t.num 2), .int .i64 (t.den 2), .int .i64 (t.num 3), .int .i64 (t.den 3), .int .i64 (t.num 4), .int .i64 (t.den 4), .int .i64 (t.num 5), .int .i64 (t.den 5), .int .i64 (t.num 6), .int .i64 (t.den 6), .int .i64 (t.num 7), .int .i64 (t.den 7), .int .i64 (t.num 8), .int .i64 (t.den 8), .int .i64 (t.num 9), .int .i64 (t.den 9), .int .i64 (t.num 10), .int .i64 (t.den 10), .int .i64 (t.num 11), .int .i64 (t.den 11)]
theorem TV.cells_size (t : TV) : t.cells.size = 27 := by kernel_rfl
theorem TV.cells_parts (t : TV) : t.cells.extract 3 (3 + 24) = t.parts := by kernel_rfl
theorem TV.cell0 (t : TV) : t.cells[0]? = some (.string t.nm) := by kernel_rfl
theorem TV.cell2 (t : TV) : t.cells[2]? = some (.int .i64 t.wolf) := by kernel_rfl
theorem idxT_0 (t : TV) (W : World) : (Instr.index 24 (.agg t.parts) (.int .i64 0)).run Tryz.prog W = .ok (.agg #[.int .i64 (t.num 0), .int .i64 (t.den 0)]) W := by kernel_rfl
theorem idxT_1 (t : TV) (W : World) : (Instr.index 24 (.agg t.parts) (.int .i64 1)).run Tryz.prog W = .ok (.agg #[.int .i64 (t.num 1), .int .i64 (t.den 1)]) W := by kernel_rfl
theorem idxT_2 (t : TV) (W : World) : (Instr.index 24 (.agg t.parts) (.int .i64 2)).run Tryz.prog W = .ok (.agg #[.int .i64 (t.num 2), .int .i64 (t.den 2)]) W := by kernel_rfl
theorem idxT_3 (t : TV) (W : World) : (Instr.index 24 (.agg t.parts) (.int .i64 3)).run Tryz.prog W = .ok (.agg #[.int .i64 (t.num 3), .int .i64 (t.den 3)]) W := by kernel_rfl
theorem idxT_4 (t : TV) (W : World) : (Instr.index 24 (.agg t.parts) (.int .i64 4)).run Tryz.prog W = .ok (.agg #[.int .i64 (t.num 4), .int .i64 (t.den 4)]) W := by kernel_rfl
theorem idxT_5 (t : TV) (W : World) : (Instr.index 24 (.agg t.parts) (.int .i64 5)).run Tryz.prog W = .ok (.agg #[.int .i64 (t.num 5), .int .i64 (t.den 5)]) W := by kernel_rfl
theorem idxT_6 (t : TV) (W : World) : (Instr.index 24 (.agg t.parts) (.int .i64 6)).run Tryz.prog W = .ok (.agg #[.int .i64 (t.num 6), .int .i64 (t.den 6)]) W := by kernel_rfl
theorem idxT_7 (t : TV) (W : World) : (Instr.index 24 (.agg t.parts) (.int .i64 7)).run Tryz.prog W = .ok (.agg #[.int .i64 (t.num 7), .int .i64 (t.den 7)]) W := by kernel_rfl
theorem idxT_8 (t : TV) (W : World) : (Instr.index 24 (.agg t.parts) (.int .i64 8)).run Tryz.prog W = .ok (.agg #[.int .i64 (t.num 8), .int .i64 (t.den 8)]) W := by kernel_rfl
theorem idxT_9 (t : TV) (W : World) : (Instr.index 24 (.agg t.parts) (.int .i64 9)).run Tryz.prog W = .ok (.agg #[.int .i64 (t.num 9), .int .i64 (t.den 9)]) W := by kernel_rfl
theorem idxT_10 (t : TV) (W : World) : (Instr.index 24 (.agg t.parts) (.int .i64 10)).run Tryz.prog W = .ok (.agg #[.int .i64 (t.num 10), .int .i64 (t.den 10)]) W := by kernel_rfl
theorem idxT_11 (t : TV) (W : World) : (Instr.index 24 (.agg t.parts) (.int .i64 11)).run Tryz.prog W = .ok (.agg #[.int .i64 (t.num 11), .int .i64 (t.den 11)]) W := by kernel_rfl
theorem idxT (t : TV) (W : World) {k : Nat} (hk : k < 12) : (Instr.index 24 (.agg t.parts) (.int .i64 (k : Int))).run Tryz.prog W = .ok (.agg #[.int .i64 (t.num k), .int .i64 (t.den k)]) W := by
  have h : k = 0 ∨ k = 1 ∨ k = 2 ∨ k = 3 ∨ k = 4 ∨ k = 5 ∨ k = 6 ∨ k = 7 ∨ k = 8 ∨ k = 9 ∨ k = 10 ∨ k = 11 := by omega
  rcases h with rfl | rfl | rfl | rfl | rfl | rfl | rfl | rfl | rfl | rfl | rfl | rfl
  · exact idxT_0 t W
  · exact idxT_1 t W
  · exact idxT_2 t W
  · exact idxT_3 t W
  · exact idxT_4 t W
  · exact idxT_5 t W
  · exact idxT_6 t W
  · exact idxT_7 t W
  · exact idxT_8 t W
  · exact idxT_9 t W
  · exact idxT_10 t W
  · exact idxT_11 t W
theorem TV.cell_num (t : TV) {k : Nat} (hk : k < 12) : t.cells[3 + 2 * k]? = some (.int .i64 (t.num k)) := by
  have h : k = 0 ∨ k = 1 ∨ k = 2 ∨ k = 3 ∨ k = 4 ∨ k = 5 ∨ k = 6 ∨ k = 7 ∨ k = 8 ∨ k = 9 ∨ k = 10 ∨ k = 11 := by omega
  rcases h with rfl | rfl | rfl | rfl | rfl | rfl | rfl | rfl | rfl | rfl | rfl | rfl <;> rfl
theorem TV.cell_den (t : TV) {k : Nat} (hk : k < 12) : t.cells[3 + 2 * k + 1]? = some (.int .i64 (t.den k)) := by
  have h : k = 0 ∨ k = 1 ∨ k = 2 ∨ k = 3 ∨ k = 4 ∨ k = 5 ∨ k = 6 ∨ k = 7 ∨ k = 8 ∨ k = 9 ∨ k = 10 ∨ k = 11 := by omega
  rcases h with rfl | rfl | rfl | rfl | rfl | rfl | rfl | rfl | rfl | rfl | rfl | rfl <;> rfl
/-- cells out of the middle of a block -/
theorem Blk.loads {P : Program} {w : World} {g : Nat} {t : TypeId} {cs : Array Value} (h : Blk w g t cs) (o n : Nat) (hn : o + n ≤ cs.size) : (loadCellsFrom ⟨g, o, none⟩ 0 n #[]).run P w = .ok (cs.extract o (o + n)) w := by
  show (loadCells ⟨g, o, none⟩ n).run P w = _; have hl : (cs.extract o (o + n)).toList.length = n := by simp; omega
  have := run_loadCells_list (P := P) w ⟨g, o, none⟩ (cs.extract o (o + n)).toList (fun j v hv => by
    have hj : j < n := by
      rcases Nat.lt_or_ge j n with g | g
      · exact g
      · rw [List.getElem?_eq_none (by rw [hl]; exact g)] at hv; cases hv
    have hadd : (⟨g, o, none⟩ : Addr).add j = ⟨g, o + j, none⟩ := by unfold Addr.add; split <;> simp_all
    rw [hadd, h.cell (o + j)]; rw [Array.getElem?_toList, Array.getElem?_extract] at hv; rw [if_pos (by omega)] at hv
    exact hv)
  rw [hl] at this; rw [this]
theorem Blk.whole {P : Program} {w : World} {g : Nat} {t : TypeId} {cs : Array Value} (h : Blk w g t cs) {n : Nat} (hn : cs.size = n) : (loadCellsFrom ⟨g, 0, none⟩ 0 n #[]).run P w = .ok cs w := by
  have := h.loads (P := P) 0 n (by omega); rw [this, Nat.zero_add, ← hn, Array.extract_size]
theorem TV.chk_wolf {N : ByteArray → Bool} {t : TV} (h : t.wolf < 0 ∨ 11 < t.wolf) : t.chk N = 2 := by unfold TV.chk; rw [if_pos h]
theorem TV.chk_bad {N : ByteArray → Bool} {t : TV} {i : Nat} (hi : i < 12) (h : t.bad i) : t.chk N = 2 := by
  unfold TV.chk
  by_cases h0 : t.wolf < 0 ∨ 11 < t.wolf
  · rw [if_pos h0]
  · rw [if_neg h0, if_pos ⟨i, hi, h⟩]
/-- are the first parts in lowest terms? -/
def TV.lowB (t : TV) : Nat → Bool
  | 0 => true
  | i+1 => t.lowB i && (((Nat.gcd (t.num i).natAbs (t.den i).natAbs : Nat) : Int) == 1)
theorem TV.lowB_true (t : TV) : ∀ n, t.lowB n = true ↔ ∀ i, i < n → t.low i
  | 0 => ⟨fun _ i h => absurd h (Nat.not_lt_zero _), fun _ => rfl⟩
  | n+1 => by
    rw [TV.lowB, Bool.and_eq_true, TV.lowB_true t n, beq_iff_eq]; constructor
    · rintro ⟨h1, h2⟩ i hi; rcases Nat.lt_or_ge i n with g | g
      · exact h1 i g
      · obtain rfl : i = n := by omega
        unfold TV.low; omega
    · intro h; refine ⟨fun i hi => h i (by omega), ?_⟩; have := h n (by omega); unfold TV.low at this; omega
theorem TV.all_pos2 (t : TV) {k : Nat} (h : ∀ j, j < k → ¬ t.bad j) (hk : k < 12) : 1 ≤ t.all k ∧ t.all k ≤ 2880 := by
  have key : ∀ i, i ≤ k → 1 ≤ t.all i ∧ t.all i ≤ 2880 := by
    intro i
    induction i with
    | zero => intro _; rw [TV.all]; decide
    | succ i ih =>
      intro hi; have h1 := ih (by omega); have hb := h i (by omega); unfold TV.bad at hb; rw [TV.all]
      split
      · rename_i h2; have h3 : t.all i / Nat.gcd (t.all i) (t.den i).natAbs ≤ 120 := Nat.le_trans (Nat.div_le_self _ _) h2; have h4 : (t.den i).natAbs ≤ 24 := by omega
        exact ⟨Nat.mul_pos (Nat.div_pos (Nat.le_of_dvd h1.1 (Nat.gcd_dvd_left _ _)) (Nat.gcd_pos_of_pos_left _ h1.1)) (by omega), Nat.mul_le_mul h3 h4⟩
      · exact h1
  exact key k (Nat.le_refl _)
/-- what Check returns where wolf and parts are in range -/
def TV.fin (nm low : Bool) (wn : Int) (all : Nat) : Int := if nm = false ∨ low = false ∨ wn ≠ 0 then 6 else if 120 < all then 7 else 0
theorem TV.chk_fin {N : ByteArray → Bool} {t : TV} (h1 : ¬ (t.wolf < 0 ∨ 11 < t.wolf)) (h2 : ∀ i, i < 12 → ¬ t.bad i) : t.chk N = TV.fin (N t.nm) (t.lowB 12) (t.num t.wolf.toNat) (t.all 12) := by
  unfold TV.chk TV.fin; rw [if_neg h1, if_neg (by rintro ⟨i, hi, hb⟩; exact h2 i hi hb)]
  have e : (∃ i, i < 12 ∧ ¬ t.low i) ↔ t.lowB 12 = false := by
    constructor
    · rintro ⟨i, hi, hn⟩
      cases hb : t.lowB 12
      · rfl
      · exact absurd ((TV.lowB_true t 12).1 hb i hi) hn
    · intro hb; refine Classical.byContradiction fun hn => ?_
      rw [(TV.lowB_true t 12).2 (fun i hi => Classical.byContradiction fun hl => hn ⟨i, hi, hl⟩)] at hb
      cases hb
  simp only [e]
theorem size_parts : (Tryz.prog.info? 24).map (·.size) = some 24 := by kernel_rfl
attribute [-simp] Tryz.isAgg24
set_option maxHeartbeats 3200000 in
set_option maxRecDepth 100000 in
theorem tcheck_any (t : TV) (w : World) (hs : t.nm.size ≤ maxLen) : Calls Tryz.prog 41 #[.agg t.cells] w fun e w' => e = .returned (.int .i64 (t.chk nameS)) ∧ Below w.heap.size w w' := by
  have hu := (Below.refl w.heap.size w).alloc (Nat.le_refl _) (.cells t.cells 26); have X0 := Blk.new w 26 t.cells; have HXP : Sl _ := ⟨fun (W : World) (k : Nat) (hk : k < 12) => idxT t W hk⟩; have HN : Sl (∀ W : World, Calls Tryz.prog 80 #[.string t.nm] W fun e w' => e = .returned (.bool (nameS t.nm)) ∧ Below W.heap.size W w') := ⟨fun W => name_any t.nm W hs⟩; have c0 := t.cell0; have c2 := t.cell2; have cn : ∀ k, k < 12 → t.cells[3 + 2 * k]? = some (.int .i64 (t.num k)) := fun k hk => t.cell_num hk
  have hrg : (w.alloc (.cells t.cells 26)).rangeAt w.heap.size 3 t.parts.toList := by
    have := World.rangeAt_of_block X0 3 24; rw [t.cells_parts] at this; exact this
  have hln : (Tryz.prog.info? 24).map (·.size) = some t.parts.toList.length := size_parts; generalize t.cells = cs at *
  generalize t.parts = P at *
  have HC : Sl _ := ⟨And.intro c0 (And.intro c2 cn)⟩; have HU : Sl _ := ⟨And.intro hu X0⟩; have HRG : Sl _ := ⟨And.intro hrg hln⟩; have c2 := HU.out.2.cell 2; rw [HC.out.2.1] at c2; clear hu X0 c0 hrg hln cn
  by_cases hwolf : t.wolf < 0 ∨ 11 < t.wolf
  · have HR : Sl (t.chk nameS = 2) := ⟨TV.chk_wolf hwolf⟩; rcases hwolf with h1 | h1
    · go_enter Tryz.func41, Tryz.ntmps41; go_wp2_with fail; go_ret; exact ⟨by rw [HR.out]; rfl, HU.out.1⟩
    · have h2 : ¬ t.wolf < 0 := by omega
      go_enter Tryz.func41, Tryz.ntmps41; go_wp2_with fail; go_ret; exact ⟨by rw [HR.out]; rfl, HU.out.1⟩
  have h1 : ¬ t.wolf < 0 := by omega
  have h2 : ¬ 11 < t.wolf := by omega
  have HW : Sl _ := ⟨And.intro h1 h2⟩; clear hwolf; go_enter Tryz.func41, Tryz.ntmps41; go_wp2_with (refine wpList_load_mid rfl 24 (.tmp 15) rfl w.heap.size 3 rfl P.toList _ HRG.out.1 Tryz.underlying24 rfl HRG.out.2 ?_); generalize w.alloc (.cells cs 26) = w0 at *
  clear c2 h1 h2
  go_loopw [3, 4, 17] (fun s3 s4 s17 wr => ∃ k : Nat, k ≤ 12 ∧ s17 = .int .i64 k ∧ s3 = .bool (t.lowB k) ∧ s4 = .int .i64 (t.all k : Nat) ∧ Sl (Below w.heap.size w wr ∧ Below w0.heap.size w0 wr ∧ ∀ j, j < k → ¬ t.bad j)) (fun _ _ s17 _ => 12 - (RowKit.intOf s17).toNat)
  case atStart => exact ⟨0, by decide, rfl, rfl, rfl, ⟨HU.out.1, Below.refl _ _, fun j hj => absurd hj (Nat.not_lt_zero _)⟩⟩
  case round =>
    obtain ⟨k, hk, rfl, rfl, rfl, HR⟩ := hrel
    by_cases hk12 : k < 12
    · have hix := fun W : World => HXP.out W k hk12
      obtain ⟨n, hn⟩ : ∃ n, t.num k = n := ⟨_, rfl⟩; obtain ⟨d, hd⟩ : ∃ d, t.den k = d := ⟨_, rfl⟩; rw [hn, hd] at hix; have hbd : t.bad k ↔ (d < 1 ∨ 24 < d ∨ n < -2 * d ∨ 2 * d < n) := by unfold TV.bad; rw [hn, hd]
      by_cases hb : t.bad k
      · have HRS : Sl (t.chk nameS = 2) := ⟨TV.chk_bad hk12 hb⟩; have hb' := hbd.1 hb; clear hb hbd HXP hn hd
        by_cases b1 : d < 1
        · clear hb'; go_wp2_with fail; go_ret; exact ⟨by rw [HRS.out]; rfl, (HR.out.1.alloc (HR.out.1.size) _)⟩
        · by_cases b2 : 24 < d
          · clear hb'; go_wp2_with fail; go_ret; exact ⟨by rw [HRS.out]; rfl, (HR.out.1.alloc (HR.out.1.size) _)⟩
          · have q1 : ¬ 24 < d := b2
            by_cases b3 : n < -2 * d
            · clear hb'; go_wp2_with fail; go_ret; exact ⟨by rw [HRS.out]; rfl, (HR.out.1.alloc (HR.out.1.size) _)⟩
            · have b4 : 2 * d < n := by omega
              clear hb'; go_wp2_with fail; go_ret; exact ⟨by rw [HRS.out]; rfl, (HR.out.1.alloc (HR.out.1.size) _)⟩
      · have hr : 1 ≤ d ∧ d ≤ 24 ∧ -2 * d ≤ n ∧ n ≤ 2 * d := by have := (not_congr hbd).1 hb; omega
        obtain ⟨r1, r2, r3, r4⟩ := hr; have hap := t.all_pos2 HR.out.2.2 hk12; obtain ⟨a, hae⟩ : ∃ a, t.all k = a := ⟨_, rfl⟩; obtain ⟨a', hae'⟩ : ∃ a', t.all (k + 1) = a' := ⟨_, rfl⟩; obtain ⟨L, hL⟩ : ∃ L, t.lowB k = L := ⟨_, rfl⟩; obtain ⟨g, hg⟩ : ∃ g, Nat.gcd n.natAbs d.natAbs = g := ⟨_, rfl⟩; obtain ⟨g2, hg2⟩ : ∃ g2, Nat.gcd a d.natAbs = g2 := ⟨_, rfl⟩; have hL' : t.lowB (k + 1) = (L && ((g : Int) == 1)) := by rw [TV.lowB, hL, hn, hd, hg]
        have ha' : a' = if a ≤ 120 then a / g2 * d.natAbs else a := by rw [← hae', TV.all, hae, hd, hg2]
        have hg2p : 1 ≤ g2 ∧ g2 ≤ 24 := by
          rw [← hg2]; exact ⟨Nat.gcd_pos_of_pos_right _ (by omega), Nat.le_trans (Nat.gcd_le_right _ (by omega)) (by omega)⟩
        have ha2 : 1 ≤ a ∧ a ≤ 2880 := by rw [← hae]; exact hap
        have HK : Sl _ := ⟨And.intro hL' (And.intro hae' ha')⟩
        have HNB : Sl (∀ j, j < k + 1 → ¬ t.bad j) := ⟨fun j hj => by
          rcases Nat.lt_or_ge j k with h | h
          · exact HR.out.2.2 j h
          · obtain rfl : j = k := by omega
            exact hb⟩
        have HRB := HR.out.1.alloc HR.out.1.size (.cells #[.int .i64 n, .int .i64 d] 23); have HRB2 := HR.out.2.1.alloc HR.out.2.1.size (.cells #[.int .i64 n, .int .i64 d] 23); have HRR : Sl _ := ⟨And.intro HRB HRB2⟩; rw [hL, hae]; clear hL hae hL' hae' ha' hbd hb hn hd HXP HRB HRB2 hap HR; have b1 : decide (d < 1) = false := by rw [decide_eq_false_iff_not]; omega
        have b2 : decide (24 < d) = false := by rw [decide_eq_false_iff_not]; omega
        have b3 : decide (n < -2 * d) = false := by rw [decide_eq_false_iff_not]; omega
        have b4 : decide (2 * d < n) = false := by rw [decide_eq_false_iff_not]; omega
        have hcd : (wr.alloc (.cells #[.int .i64 n, .int .i64 d] 23)).cell? ⟨wr.heap.size, 1, none⟩ = some (.int .i64 d) := (Blk.new wr 23 #[.int .i64 n, .int .i64 d]).cell 1; have hcn : (wr.alloc (.cells #[.int .i64 n, .int .i64 d] 23)).cell? ⟨wr.heap.size, 0, none⟩ = some (.int .i64 n) := (Blk.new wr 23 #[.int .i64 n, .int .i64 d]).cell 0; have HHC : Sl _ := ⟨And.intro hcd hcn⟩; clear hcd hcn; have HG2 : Sl _ := ⟨And.intro hg hg2⟩; clear hg hg2
        cases L
        · have HL : Sl (t.lowB (k + 1) = false) := ⟨by rw [HK.out.1]; rfl⟩
          by_cases ha : a ≤ 120
          · have had : decide ((a : Int) ≤ 120) = true := by rw [decide_eq_true_iff]; omega
            have hdv : (a : Int).tdiv (g2 : Int) = ((a / g2 : Nat) : Int) := by rw [Int.tdiv_eq_ediv_of_nonneg (by omega)]; exact (Int.natCast_ediv a g2).symm
            have hq : a / g2 ≤ a := Nat.div_le_self _ _; have HMU : Sl (((a / g2 : Nat) : Int) * d = (a' : Int)) := ⟨by rw [HK.out.2.2, if_pos ha, Int.natCast_mul, show ((d.natAbs : Nat) : Int) = d by omega]⟩
            have VA : Sl (∀ (W : World) q, Calls Tryz.prog 79 #[.int .i64 a, .int .i64 d] (W.drewN q) fun e w'' => e = .returned (.int .i64 g2) ∧ ∃ m, w'' = W.drewN m) := ⟨fun W q => by
              have h := tgcd_any a d.natAbs (W.drewN q) (by omega) (by omega); rw [HG2.out.2, show ((d.natAbs : Nat) : Int) = d by omega] at h
              exact h.mono fun e w'' h => ⟨h.1, by obtain ⟨m, hm⟩ := h.2; exact ⟨q + m, by rw [hm, drew2]⟩⟩⟩
            have hdv2 : (a : Int) / (g2 : Int) = ((a / g2 : Nat) : Int) := (Int.natCast_ediv a g2).symm; have hg01 : ¬ (g2 : Int) = 0 := by omega
            have hg00 : ¬ g2 = 0 := by omega
            have hg0b : ((g2 : Int) == 0) = false := by rw [beq_eq_false_iff_ne]; omega
            generalize a / g2 = q2 at *
            have hmb : 0 ≤ (q2 : Int) * d ∧ (q2 : Int) * d ≤ 69120 := by
              have l1 := Int.mul_le_mul (show (q2 : Int) ≤ 2880 by omega) r2 (by omega) (by decide); exact ⟨Int.mul_nonneg (by omega) (by omega), by omega⟩
            obtain ⟨hmb1, hmb2⟩ := hmb; clear ha hg2p; go_wp2_with fail; have hcd : (wr.alloc (.cells #[.int .i64 n, .int .i64 d] 23)).cell? ⟨wr.heap.size, 1, none⟩ = some (.int .i64 d) := HHC.out.1; have HRW : Sl (Below w.heap.size w (wr.alloc (.cells #[.int .i64 n, .int .i64 d] 23)) ∧ Below w0.heap.size w0 (wr.alloc (.cells #[.int .i64 n, .int .i64 d] 23))) := ⟨⟨HRR.out.1, HRR.out.2⟩⟩; generalize wr.alloc (.cells #[.int .i64 n, .int .i64 d] 23) = wp at *
            go_quiet ((go_at_call 79; (with_reducible exact VA.out _ _)))
            go_wp2_with fail; refine ⟨⟨k + 1, hk12, by go_num, by rw [HL.out], ret_val (by rw [HMU.out, HK.out.2.1]), ⟨below_drewN HRW.out.1 _, below_drewN HRW.out.2 _, HNB.out⟩⟩, by simp [RowKit.intOf]; omega⟩
          · have had : decide ((a : Int) ≤ 120) = false := by rw [decide_eq_false_iff_not]; omega
            have HAE : Sl (a = a') := ⟨by rw [HK.out.2.2, if_neg ha]⟩; clear ha; go_wp2_with fail; refine ⟨⟨k + 1, hk12, by go_num, by rw [HL.out], ret_val (by rw [HAE.out, HK.out.2.1]), ⟨HRR.out.1,  HRR.out.2, HNB.out⟩⟩, by simp [RowKit.intOf]; omega⟩
        · have HL : Sl (t.lowB (k + 1) = ((g : Int) == 1)) := ⟨by rw [HK.out.1, Bool.true_and]⟩; have hwz : IntKind.i64.wrap (-n) = -n := by rw [IntKind.wrap_i64]; omega
          by_cases h0 : 0 ≤ n
          · have hm1 : max n (-n) = n := by omega
            have hm2 : ¬ n < -n := by omega
            have hm3 : -n ≤ n := by omega
            have HG : Sl (∀ W : World, Calls Tryz.prog 79 #[.int .i64 n, .int .i64 d] W fun e w' => e = .returned (.int .i64 g) ∧ ∃ m, w' = W.drewN m) := ⟨fun W => by
              have h := tgcd_any n.natAbs d.natAbs W (by omega) (by omega); rw [HG2.out.1, show ((d.natAbs : Nat) : Int) = d by omega, show ((n.natAbs : Nat) : Int) = n by omega] at h
              exact h⟩
            by_cases ha : a ≤ 120
            · have had : decide ((a : Int) ≤ 120) = true := by rw [decide_eq_true_iff]; omega
              have hdv : (a : Int).tdiv (g2 : Int) = ((a / g2 : Nat) : Int) := by rw [Int.tdiv_eq_ediv_of_nonneg (by omega)]; exact (Int.natCast_ediv a g2).symm
              have hq : a / g2 ≤ a := Nat.div_le_self _ _; have HMU : Sl (((a / g2 : Nat) : Int) * d = (a' : Int)) := ⟨by rw [HK.out.2.2, if_pos ha, Int.natCast_mul, show ((d.natAbs : Nat) : Int) = d by omega]⟩
              have VA : Sl (∀ (W : World) q, Calls Tryz.prog 79 #[.int .i64 a, .int .i64 d] (W.drewN q) fun e w'' => e = .returned (.int .i64 g2) ∧ ∃ m, w'' = W.drewN m) := ⟨fun W q => by
                have h := tgcd_any a d.natAbs (W.drewN q) (by omega) (by omega); rw [HG2.out.2, show ((d.natAbs : Nat) : Int) = d by omega] at h
                exact h.mono fun e w'' h => ⟨h.1, by obtain ⟨m, hm⟩ := h.2; exact ⟨q + m, by rw [hm, drew2]⟩⟩⟩
              have hdv2 : (a : Int) / (g2 : Int) = ((a / g2 : Nat) : Int) := (Int.natCast_ediv a g2).symm; have hg01 : ¬ (g2 : Int) = 0 := by omega
              have hg00 : ¬ g2 = 0 := by omega
              have hg0b : ((g2 : Int) == 0) = false := by rw [beq_eq_false_iff_ne]; omega
              generalize a / g2 = q2 at *
              have hmb : 0 ≤ (q2 : Int) * d ∧ (q2 : Int) * d ≤ 69120 := by
                have l1 := Int.mul_le_mul (show (q2 : Int) ≤ 2880 by omega) r2 (by omega) (by decide); exact ⟨Int.mul_nonneg (by omega) (by omega), by omega⟩
              obtain ⟨hmb1, hmb2⟩ := hmb; clear ha hg2p; go_wp2_with fail; refine (HG.out _).mono ?_; rintro e w1 ⟨rfl, dn, rfl⟩; go_wp2_with fail; have hcd : ((wr.alloc (.cells #[.int .i64 n, .int .i64 d] 23)).drewN dn).cell? ⟨wr.heap.size, 1, none⟩ = some (.int .i64 d) := HHC.out.1; have HRW : Sl (Below w.heap.size w ((wr.alloc (.cells #[.int .i64 n, .int .i64 d] 23)).drewN dn) ∧ Below w0.heap.size w0 ((wr.alloc (.cells #[.int .i64 n, .int .i64 d] 23)).drewN dn)) := ⟨⟨below_drewN HRR.out.1 dn, below_drewN HRR.out.2 dn⟩⟩; generalize (wr.alloc (.cells #[.int .i64 n, .int .i64 d] 23)).drewN dn = wp at *
              go_quiet ((go_at_call 79; (with_reducible exact VA.out _ _)))
              go_wp2_with fail; refine ⟨⟨k + 1, hk12, by go_num, by rw [HL.out], ret_val (by rw [HMU.out, HK.out.2.1]), ⟨below_drewN HRW.out.1 _, below_drewN HRW.out.2 _, HNB.out⟩⟩, by simp [RowKit.intOf]; omega⟩
            · have had : decide ((a : Int) ≤ 120) = false := by rw [decide_eq_false_iff_not]; omega
              have HAE : Sl (a = a') := ⟨by rw [HK.out.2.2, if_neg ha]⟩; clear ha; go_wp2_with fail; refine (HG.out _).mono ?_; rintro e w1 ⟨rfl, dn, rfl⟩; go_wp2_with fail; refine ⟨⟨k + 1, hk12, by go_num, by rw [HL.out], ret_val (by rw [HAE.out, HK.out.2.1]), ⟨below_drewN HRR.out.1 dn,  below_drewN HRR.out.2 dn, HNB.out⟩⟩, by simp [RowKit.intOf]; omega⟩
          · have hm1 : max n (-n) = -n := by omega
            have hm3 : n < -n := by omega
            have HG : Sl (∀ W : World, Calls Tryz.prog 79 #[.int .i64 (-n), .int .i64 d] W fun e w' => e = .returned (.int .i64 g) ∧ ∃ m, w' = W.drewN m) := ⟨fun W => by
              have h := tgcd_any n.natAbs d.natAbs W (by omega) (by omega); rw [HG2.out.1, show ((d.natAbs : Nat) : Int) = d by omega, show ((n.natAbs : Nat) : Int) = -n by omega] at h
              exact h⟩
            by_cases ha : a ≤ 120
            · have had : decide ((a : Int) ≤ 120) = true := by rw [decide_eq_true_iff]; omega
              have hdv : (a : Int).tdiv (g2 : Int) = ((a / g2 : Nat) : Int) := by rw [Int.tdiv_eq_ediv_of_nonneg (by omega)]; exact (Int.natCast_ediv a g2).symm
              have hq : a / g2 ≤ a := Nat.div_le_self _ _; have HMU : Sl (((a / g2 : Nat) : Int) * d = (a' : Int)) := ⟨by rw [HK.out.2.2, if_pos ha, Int.natCast_mul, show ((d.natAbs : Nat) : Int) = d by omega]⟩
              have VA : Sl (∀ (W : World) q, Calls Tryz.prog 79 #[.int .i64 a, .int .i64 d] (W.drewN q) fun e w'' => e = .returned (.int .i64 g2) ∧ ∃ m, w'' = W.drewN m) := ⟨fun W q => by
                have h := tgcd_any a d.natAbs (W.drewN q) (by omega) (by omega); rw [HG2.out.2, show ((d.natAbs : Nat) : Int) = d by omega] at h
                exact h.mono fun e w'' h => ⟨h.1, by obtain ⟨m, hm⟩ := h.2; exact ⟨q + m, by rw [hm, drew2]⟩⟩⟩
              have hdv2 : (a : Int) / (g2 : Int) = ((a / g2 : Nat) : Int) := (Int.natCast_ediv a g2).symm; have hg01 : ¬ (g2 : Int) = 0 := by omega
              have hg00 : ¬ g2 = 0 := by omega
              have hg0b : ((g2 : Int) == 0) = false := by rw [beq_eq_false_iff_ne]; omega
              generalize a / g2 = q2 at *
              have hmb : 0 ≤ (q2 : Int) * d ∧ (q2 : Int) * d ≤ 69120 := by
                have l1 := Int.mul_le_mul (show (q2 : Int) ≤ 2880 by omega) r2 (by omega) (by decide); exact ⟨Int.mul_nonneg (by omega) (by omega), by omega⟩
              obtain ⟨hmb1, hmb2⟩ := hmb; clear ha hg2p; go_wp2_with fail; refine (HG.out _).mono ?_; rintro e w1 ⟨rfl, dn, rfl⟩; go_wp2_with fail; have hcd : ((wr.alloc (.cells #[.int .i64 n, .int .i64 d] 23)).drewN dn).cell? ⟨wr.heap.size, 1, none⟩ = some (.int .i64 d) := HHC.out.1; have HRW : Sl (Below w.heap.size w ((wr.alloc (.cells #[.int .i64 n, .int .i64 d] 23)).drewN dn) ∧ Below w0.heap.size w0 ((wr.alloc (.cells #[.int .i64 n, .int .i64 d] 23)).drewN dn)) := ⟨⟨below_drewN HRR.out.1 dn, below_drewN HRR.out.2 dn⟩⟩; generalize (wr.alloc (.cells #[.int .i64 n, .int .i64 d] 23)).drewN dn = wp at *
              go_quiet ((go_at_call 79; (with_reducible exact VA.out _ _)))
              go_wp2_with fail; refine ⟨⟨k + 1, hk12, by go_num, by rw [HL.out], ret_val (by rw [HMU.out, HK.out.2.1]), ⟨below_drewN HRW.out.1 _, below_drewN HRW.out.2 _, HNB.out⟩⟩, by simp [RowKit.intOf]; omega⟩
            · have had : decide ((a : Int) ≤ 120) = false := by rw [decide_eq_false_iff_not]; omega
              have HAE : Sl (a = a') := ⟨by rw [HK.out.2.2, if_neg ha]⟩; clear ha; go_wp2_with fail; refine (HG.out _).mono ?_; rintro e w1 ⟨rfl, dn, rfl⟩; go_wp2_with fail; refine ⟨⟨k + 1, hk12, by go_num, by rw [HL.out], ret_val (by rw [HAE.out, HK.out.2.1]), ⟨below_drewN HRR.out.1 dn,  below_drewN HRR.out.2 dn, HNB.out⟩⟩, by simp [RowKit.intOf]; omega⟩
    · obtain rfl : k = 12 := by omega
      have hall : ∀ j, j < 12 → ¬ t.bad j := HR.out.2.2; have hfin := TV.chk_fin (N := nameS) (t := t) (by have := HW.out; omega) hall; obtain ⟨wn, hwn⟩ : ∃ z, t.num t.wolf.toNat = z := ⟨_, rfl⟩; obtain ⟨a, ha⟩ : ∃ z, t.all 12 = z := ⟨_, rfl⟩; obtain ⟨L, hL⟩ : ∃ z, t.lowB 12 = z := ⟨_, rfl⟩; obtain ⟨N, hN⟩ : ∃ z, nameS t.nm = z := ⟨_, rfl⟩; obtain ⟨W, hW⟩ : ∃ W : Nat, t.wolf = (W : Int) := ⟨t.wolf.toNat, by have := HW.out; omega⟩; rw [hwn, ha, hL, hN] at hfin; rw [hN] at HN; have hW12 : W < 12 := by have := HW.out; omega
      have X := HU.out.2.below HR.out.2.1 HU.out.2.lt; have c0 : wr.cell? ⟨w.heap.size, 0, none⟩ = some (.string t.nm) := by rw [X.cell]; exact HC.out.1
      have CW : Sl (∀ w1 : World, Below wr.heap.size wr w1 → w1.cell? ⟨w.heap.size, 2, none⟩ = some (.int .i64 (W : Int)) ∧ w1.cell? ⟨w.heap.size, 3 + W * 2, none⟩ = some (.int .i64 wn)) := ⟨fun w1 h => by
        have X1 := X.below h X.lt; refine ⟨?_, ?_⟩
        · rw [X1.cell, HC.out.2.1, hW]
        · rw [X1.cell, Nat.mul_comm, HC.out.2.2 W hW12, ← hwn, hW, Int.toNat_natCast]⟩
      have HF : Sl _ := ⟨hfin⟩; rw [hL, ha, hW]; clear hfin hwn ha hL hN hW HXP hall X hk12 HC HU HRG HW; have hw1 : (0 : Int) ≤ (W : Int) := by omega
      have hw2 : (W : Int) < 12 := by omega
      go_wp2_with fail; refine (HN.out _).mono ?_; rintro e w1 ⟨rfl, hb1⟩; obtain ⟨d2, dn⟩ := CW.out w1 hb1; have HB : Sl _ := ⟨HR.out.1.trans (hb1.mono HR.out.1.size)⟩; clear hb1 c0 CW
      by_cases h120 : 120 < a
      · have q1 : decide ((120 : Int) < (a : Int)) = true := by rw [decide_eq_true_iff]; omega
        cases N
        · go_wp2_with fail; go_ret; exact ⟨by rw [HF.out]; unfold TV.fin; rw [if_pos (.inl rfl)]; rfl, HB.out⟩
        · cases L
          · go_wp2_with fail; go_ret; exact ⟨by rw [HF.out]; unfold TV.fin; rw [if_pos (.inr (.inl rfl))]; rfl, HB.out⟩
          · by_cases hz : wn = 0
            · subst hz; go_wp2_with fail; go_ret; exact ⟨by rw [HF.out]; unfold TV.fin; rw [if_neg (by simp), if_pos h120]; rfl, HB.out⟩
            · have hzb : (wn != 0) = true := by rw [bne_iff_ne]; exact hz
              go_wp2_with fail; go_ret; exact ⟨by rw [HF.out]; unfold TV.fin; rw [if_pos (.inr (.inr hz))]; rfl, HB.out⟩
      · have q1 : decide ((120 : Int) < (a : Int)) = false := by rw [decide_eq_false_iff_not]; omega
        cases N
        · go_wp2_with fail; go_ret; exact ⟨by rw [HF.out]; unfold TV.fin; rw [if_pos (.inl rfl)]; rfl, HB.out⟩
        · cases L
          · go_wp2_with fail; go_ret; exact ⟨by rw [HF.out]; unfold TV.fin; rw [if_pos (.inr (.inl rfl))]; rfl, HB.out⟩
          · by_cases hz : wn = 0
            · subst hz; go_wp2_with fail; go_ret; exact ⟨by rw [HF.out]; unfold TV.fin; rw [if_neg (by simp), if_neg h120]; rfl, HB.out⟩
            · have hzb : (wn != 0) = true := by rw [bne_iff_ne]; exact hz
              go_wp2_with fail; go_ret; exact ⟨by rw [HF.out]; unfold TV.fin; rw [if_pos (.inr (.inr hz))]; rfl, HB.out⟩
end Go.Proofs.YtmcoadmnkelkkaaGreatDoor
namespace Go.Proofs.YtmcoadmnkelkkaaGreatDoor
set_option linter.unusedSimpArgs false
open Go.RowKit
set_option linter.unusedVariables false
attribute [-simp] Tryz.isAgg24
theorem TV.chk_low {N : ByteArray → Bool} {t : TV} {i : Nat} (h1 : ¬ (t.wolf < 0 ∨ 11 < t.wolf)) (h2 : ∀ i, i < 12 → ¬ t.bad i) (hi : i < 12) (h : ¬ t.low i) : t.chk N = 6 := by
  unfold TV.chk; rw [if_neg h1, if_neg (by rintro ⟨i, hi, hb⟩; exact h2 i hi hb), if_pos (.inr (.inl ⟨i, hi, h⟩))]
theorem TV.chk_name {N : ByteArray → Bool} {t : TV} (h1 : ¬ (t.wolf < 0 ∨ 11 < t.wolf)) (h2 : ∀ i, i < 12 → ¬ t.bad i) (h : N t.nm = false) : t.chk N = 6 := by
  unfold TV.chk; rw [if_neg h1, if_neg (by rintro ⟨i, hi, hb⟩; exact h2 i hi hb), if_pos (.inl h)]
theorem TV.chk_wolfn {N : ByteArray → Bool} {t : TV} (h1 : ¬ (t.wolf < 0 ∨ 11 < t.wolf)) (h2 : ∀ i, i < 12 → ¬ t.bad i) (h : ¬ (t.num t.wolf.toNat = 0 ∧ t.den t.wolf.toNat = 1)) : t.chk N = 6 := by
  unfold TV.chk; rw [if_neg h1, if_neg (by rintro ⟨i, hi, hb⟩; exact h2 i hi hb), if_pos]
  by_cases h0 : t.num t.wolf.toNat = 0
  · refine .inr (.inl ⟨t.wolf.toNat, by omega, fun hl => h ⟨h0, ?_⟩⟩); have hb := h2 t.wolf.toNat (by omega); unfold TV.low at hl; rw [h0] at hl; simp at hl; unfold TV.bad at hb; omega
  · exact .inr (.inr h0)
theorem TV.chk_end {N : ByteArray → Bool} {t : TV} (h1 : ¬ (t.wolf < 0 ∨ 11 < t.wolf)) (h2 : ∀ i, i < 12 → ¬ t.bad i) (hn : N t.nm = true) (hw : t.num t.wolf.toNat = 0) (hl : ∀ i, i < 12 → t.low i) : t.chk N = if 120 < t.all 12 then 7 else 0 := by
  unfold TV.chk; rw [if_neg h1, if_neg (by rintro ⟨i, hi, hb⟩; exact h2 i hi hb), if_neg]; rintro (h | ⟨i, hi, h⟩ | h)
  · rw [hn] at h; cases h
  · exact h (hl i hi)
  · exact h hw
set_option maxHeartbeats 3200000 in
set_option maxRecDepth 100000 in
theorem r5check_any (t : TV) (w : World) (hs : t.nm.size ≤ maxLen) : Calls Tryz.prog 8 #[.agg t.cells] w fun e w' => e = .returned (.int .i64 (t.chk nameS)) ∧ Below w.heap.size w w' := by
  have hu := (Below.refl w.heap.size w).alloc (Nat.le_refl _) (.cells t.cells 26); have X0 := Blk.new w 26 t.cells; have HN : Sl (∀ W : World, Calls Tryz.prog 39 #[.string t.nm] W fun e w' => e = .returned (.bool (nameS t.nm)) ∧ Below W.heap.size W w') := ⟨fun W => r1name_any t.nm W hs⟩; have c0 := t.cell0; have c2 := t.cell2; have cn : ∀ k, k < 12 → t.cells[3 + 2 * k]? = some (.int .i64 (t.num k)) := fun k hk => t.cell_num hk
  have cd : ∀ k, k < 12 → t.cells[3 + 2 * k + 1]? = some (.int .i64 (t.den k)) := fun k hk => t.cell_den hk
  generalize t.cells = cs at *
  have HC : Sl _ := ⟨And.intro c0 (And.intro c2 (And.intro cn cd))⟩; have HU : Sl _ := ⟨And.intro hu X0⟩; have c2 := HU.out.2.cell 2; rw [HC.out.2.1] at c2; clear hu X0 c0 cn cd
  by_cases hwolf : t.wolf < 0 ∨ 11 < t.wolf
  · have HR : Sl (t.chk nameS = 2) := ⟨TV.chk_wolf hwolf⟩; rcases hwolf with h1 | h1
    · go_enter Tryz.func8, Tryz.ntmps8; go_wp2_with fail; go_ret; exact ⟨by rw [HR.out]; rfl, HU.out.1⟩
    · have h2 : ¬ t.wolf < 0 := by omega
      go_enter Tryz.func8, Tryz.ntmps8; go_wp2_with fail; go_ret; exact ⟨by rw [HR.out]; rfl, HU.out.1⟩
  have h1 : ¬ t.wolf < 0 := by omega
  have h2 : ¬ 11 < t.wolf := by omega
  have HW : Sl _ := ⟨hwolf⟩; clear hwolf; go_enter Tryz.func8, Tryz.ntmps8; go_wp2_with fail; generalize w.alloc (.cells cs 26) = w0 at *
  clear c2 h1 h2
  go_loopw [3] (fun s3 wr => ∃ k : Nat, k ≤ 12 ∧ s3 = .int .i64 k ∧ Sl (Below w.heap.size w wr ∧ Below w0.heap.size w0 wr ∧ ∀ j, j < k → ¬ t.bad j)) (fun s3 _ => 12 - (RowKit.intOf s3).toNat)
  case atStart => exact ⟨0, by decide, rfl, ⟨HU.out.1, Below.refl _ _, fun j hj => absurd hj (Nat.not_lt_zero _)⟩⟩
  case round =>
    obtain ⟨k, hk, rfl, HR⟩ := hrel
    by_cases hk12 : k < 12
    · obtain ⟨n, hn⟩ : ∃ n, t.num k = n := ⟨_, rfl⟩; obtain ⟨d, hd⟩ : ∃ d, t.den k = d := ⟨_, rfl⟩; have X := HU.out.2.below HR.out.2.1 HU.out.2.lt; have cn : wr.cell? ⟨w.heap.size, 3 + k * 2, none⟩ = some (.int .i64 n) := by rw [X.cell, Nat.mul_comm, HC.out.2.2.1 k hk12, hn]
      have cd : wr.cell? ⟨w.heap.size, 3 + k * 2 + 1, none⟩ = some (.int .i64 d) := by rw [X.cell, Nat.mul_comm, HC.out.2.2.2 k hk12, hd]
      have hi1 : (0 : Int) ≤ (k : Int) := by omega
      have hi2 : (k : Int) < 12 := by omega
      have hbd : t.bad k ↔ (d < 1 ∨ 24 < d ∨ n < -2 * d ∨ 2 * d < n) := by unfold TV.bad; rw [hn, hd]
      by_cases hb : t.bad k
      · have HRS : Sl (t.chk nameS = 2) := ⟨TV.chk_bad hk12 hb⟩; have hb' := hbd.1 hb; clear hb hbd hn hd X
        by_cases b1 : d < 1
        · clear hb'; go_wp2_with fail; go_ret; exact ⟨by rw [HRS.out]; rfl, (HR.out.1.alloc (HR.out.1.size) _)⟩
        · by_cases b2 : 24 < d
          · clear hb'; go_wp2_with fail; go_ret; exact ⟨by rw [HRS.out]; rfl, (HR.out.1.alloc (HR.out.1.size) _)⟩
          · have q1 : ¬ 24 < d := b2
            by_cases b3 : n < -2 * d
            · clear hb'; go_wp2_with fail; go_ret; exact ⟨by rw [HRS.out]; rfl, (HR.out.1.alloc (HR.out.1.size) _)⟩
            · have b4 : 2 * d < n := by omega
              clear hb'; go_wp2_with fail; go_ret; exact ⟨by rw [HRS.out]; rfl, (HR.out.1.alloc (HR.out.1.size) _)⟩
      · have hr : 1 ≤ d ∧ d ≤ 24 ∧ -2 * d ≤ n ∧ n ≤ 2 * d := by have := (not_congr hbd).1 hb; omega
        obtain ⟨r1, r2, r3, r4⟩ := hr
        have HNB : Sl (∀ j, j < k + 1 → ¬ t.bad j) := ⟨fun j hj => by
          rcases Nat.lt_or_ge j k with h | h
          · exact HR.out.2.2 j h
          · obtain rfl : j = k := by omega
            exact hb⟩
        have HRR : Sl _ := ⟨And.intro (HR.out.1.alloc HR.out.1.size (.cells #[.int .i64 n, .int .i64 d] 23)) (HR.out.2.1.alloc HR.out.2.1.size (.cells #[.int .i64 n, .int .i64 d] 23))⟩; clear hbd hb hn hd X HR; have b1 : decide (d < 1) = false := by rw [decide_eq_false_iff_not]; omega
        have b2 : decide (24 < d) = false := by rw [decide_eq_false_iff_not]; omega
        have b3 : decide (n < -2 * d) = false := by rw [decide_eq_false_iff_not]; omega
        have b4 : decide (2 * d < n) = false := by rw [decide_eq_false_iff_not]; omega
        go_wp2_with fail; exact ⟨⟨k + 1, hk12, by go_num, ⟨HRR.out.1, HRR.out.2, HNB.out⟩⟩, by simp [RowKit.intOf]; omega⟩
    · obtain rfl : k = 12 := by omega
      have hall : ∀ j, j < 12 → ¬ t.bad j := HR.out.2.2; have HAL : Sl _ := ⟨hall⟩; obtain ⟨wn, hwn⟩ : ∃ z, t.num t.wolf.toNat = z := ⟨_, rfl⟩; obtain ⟨wd, hwd⟩ : ∃ z, t.den t.wolf.toNat = z := ⟨_, rfl⟩; obtain ⟨N, hN⟩ : ∃ z, nameS t.nm = z := ⟨_, rfl⟩; obtain ⟨W, hW⟩ : ∃ W : Nat, t.wolf = (W : Int) := ⟨t.wolf.toNat, by have := HW.out; omega⟩; rw [hN] at HN; have hW12 : W < 12 := by have := HW.out; omega
      have X := HU.out.2.below HR.out.2.1 HU.out.2.lt; have c0 : wr.cell? ⟨w.heap.size, 0, none⟩ = some (.string t.nm) := by rw [X.cell]; exact HC.out.1
      have CW : Sl (∀ w1 : World, Below wr.heap.size wr w1 → w1.cell? ⟨w.heap.size, 2, none⟩ = some (.int .i64 (W : Int)) ∧ w1.cell? ⟨w.heap.size, 3 + W * 2, none⟩ = some (.int .i64 wn) ∧ w1.cell? ⟨w.heap.size, 3 + W * 2 + 1, none⟩ = some (.int .i64 wd)) := ⟨fun w1 h => by
        have X1 := X.below h X.lt; refine ⟨?_, ?_, ?_⟩
        · rw [X1.cell, HC.out.2.1, hW]
        · rw [X1.cell, Nat.mul_comm, HC.out.2.2.1 W hW12, ← hwn, hW, Int.toNat_natCast]
        · rw [X1.cell, Nat.mul_comm, HC.out.2.2.2 W hW12, ← hwd, hW, Int.toNat_natCast]⟩
      have HF1 : Sl (N = false → t.chk nameS = 6) := ⟨fun h => TV.chk_name HW.out hall (by rw [hN]; exact h)⟩; have HF2 : Sl (¬ (wn = 0 ∧ wd = 1) → t.chk nameS = 6) := ⟨fun h => TV.chk_wolfn HW.out hall (by rw [hwn, hwd]; exact h)⟩; have HF3 : Sl (N = true → wn = 0 → (∀ i, i < 12 → t.low i) → t.chk nameS = if 120 < t.all 12 then 7 else 0) := ⟨fun h1 h2 h3 => TV.chk_end HW.out hall (by rw [hN]; exact h1) (by rw [hwn]; exact h2) h3⟩; have HF4 : Sl (∀ i, i < 12 → ¬ t.low i → t.chk nameS = 6) := ⟨fun i hi h => TV.chk_low HW.out hall hi h⟩; rw [hW]; clear hwn hwd hN hW hall hk12 HW; have hw1 : (0 : Int) ≤ (W : Int) := by omega
      have hw2 : (W : Int) < 12 := by omega
      have XS : Sl _ := ⟨X⟩; clear X; go_wp2_with fail; refine (HN.out _).mono ?_; rintro e w1 ⟨rfl, hb1⟩; obtain ⟨d2, dn, dd⟩ := CW.out w1 hb1; have HB : Sl _ := ⟨And.intro (HR.out.1.trans (hb1.mono HR.out.1.size)) (HR.out.2.1.trans (hb1.mono HR.out.2.1.size))⟩; clear hb1 c0 CW HR XS
      cases N
      · clear d2 dn dd; go_wp2_with fail; go_ret; exact ⟨by rw [HF1.out (by simp)]; rfl, HB.out.1⟩
      by_cases hz : wn = 0 ∧ wd = 1
      · obtain ⟨rfl, rfl⟩ := hz; go_wp2_with fail; clear d2 dn dd
        go_loopw [5, 6] (fun s5 s6 wr => ∃ k : Nat, k ≤ 12 ∧ s6 = .int .i64 k ∧ s5 = .int .i64 (t.all k : Nat) ∧ Sl (Below w.heap.size w wr ∧ Below w0.heap.size w0 wr ∧ ∀ j, j < k → t.low j)) (fun _ s6 _ => 12 - (RowKit.intOf s6).toNat)
        case atStart => exact ⟨0, by decide, rfl, rfl, ⟨HB.out.1, HB.out.2, fun j hj => absurd hj (Nat.not_lt_zero _)⟩⟩
        case round =>
          obtain ⟨k, hk, rfl, rfl, HR⟩ := hrel
          by_cases hk12 : k < 12
          · obtain ⟨n, hn⟩ : ∃ n, t.num k = n := ⟨_, rfl⟩; obtain ⟨d, hd⟩ : ∃ d, t.den k = d := ⟨_, rfl⟩; have X := HU.out.2.below HR.out.2.1 HU.out.2.lt; have cn : wr.cell? ⟨w.heap.size, 3 + k * 2, none⟩ = some (.int .i64 n) := by rw [X.cell, Nat.mul_comm, HC.out.2.2.1 k hk12, hn]
            have cd : wr.cell? ⟨w.heap.size, 3 + k * 2 + 1, none⟩ = some (.int .i64 d) := by rw [X.cell, Nat.mul_comm, HC.out.2.2.2 k hk12, hd]
            have hi1 : (0 : Int) ≤ (k : Int) := by omega
            have hi2 : (k : Int) < 12 := by omega
            have hb := HAL.out k hk12; unfold TV.bad at hb; rw [hn, hd] at hb; have hr : 1 ≤ d ∧ d ≤ 24 ∧ -2 * d ≤ n ∧ n ≤ 2 * d := by omega
            obtain ⟨r1, r2, r3, r4⟩ := hr; have hap := t.all_pos2 (fun j hj => HAL.out j (by omega)) hk12; obtain ⟨a, hae⟩ : ∃ a, t.all k = a := ⟨_, rfl⟩; obtain ⟨a', hae'⟩ : ∃ a', t.all (k + 1) = a' := ⟨_, rfl⟩; obtain ⟨g, hg⟩ : ∃ g, Nat.gcd n.natAbs d.natAbs = g := ⟨_, rfl⟩; obtain ⟨g2, hg2⟩ : ∃ g2, Nat.gcd a d.natAbs = g2 := ⟨_, rfl⟩; have hlow : t.low k ↔ g = 1 := by unfold TV.low; rw [hn, hd, hg]
            have ha' : a' = if a ≤ 120 then a / g2 * d.natAbs else a := by rw [← hae', TV.all, hae, hd, hg2]
            have hg2p : 1 ≤ g2 ∧ g2 ≤ 24 := by
              rw [← hg2]; exact ⟨Nat.gcd_pos_of_pos_right _ (by omega), Nat.le_trans (Nat.gcd_le_right _ (by omega)) (by omega)⟩
            have ha2 : 1 ≤ a ∧ a ≤ 2880 := by rw [← hae]; exact hap
            have HLW : Sl (g = 1 → ∀ j, j < k + 1 → t.low j) := ⟨fun h j hj => by
              rcases Nat.lt_or_ge j k with g | g
              · exact HR.out.2.2 j g
              · obtain rfl : j = k := by omega
                exact hlow.2 h⟩
            have HLN : Sl (¬ g = 1 → t.chk nameS = 6) := ⟨fun h => HF4.out k hk12 fun hl => h (hlow.1 hl)⟩; have HK : Sl _ := ⟨And.intro hae' ha'⟩; have HRR : Sl _ := ⟨And.intro (HR.out.1.alloc HR.out.1.size (.cells #[.int .i64 n, .int .i64 d] 23)) (HR.out.2.1.alloc HR.out.2.1.size (.cells #[.int .i64 n, .int .i64 d] 23))⟩; have hcd : (wr.alloc (.cells #[.int .i64 n, .int .i64 d] 23)).cell? ⟨wr.heap.size, 1, none⟩ = some (.int .i64 d) := (Blk.new wr 23 #[.int .i64 n, .int .i64 d]).cell 1; have HHC : Sl _ := ⟨hcd⟩; have HG2 : Sl _ := ⟨And.intro hg hg2⟩; rw [hae]; clear hae hae' ha' hb hn hd X hap HR hlow hg hg2 hcd HAL HF1 HF2 HF3 HF4; have hwz : IntKind.i64.wrap (-n) = -n := by rw [IntKind.wrap_i64]; omega
            by_cases h0 : 0 ≤ n
            · have hm1 : max n (-n) = n := by omega
              have hm2 : ¬ n < -n := by omega
              have hm3 : -n ≤ n := by omega
              have HG : Sl (∀ W : World, Calls Tryz.prog 40 #[.int .i64 n, .int .i64 d] W fun e w' => e = .returned (.int .i64 g) ∧ ∃ m, w' = W.drewN m) := ⟨fun W => by
                have h := r5gcd_any n.natAbs d.natAbs W (by omega) (by omega); rw [HG2.out.1, show ((d.natAbs : Nat) : Int) = d by omega, show ((n.natAbs : Nat) : Int) = n by omega] at h
                exact h⟩
              go_wp2_with fail; refine (HG.out _).mono ?_; rintro e w1 ⟨rfl, dn, rfl⟩
              by_cases hg1 : g = 1
              · subst hg1; have HL := HLW.out rfl; have HLS : Sl _ := ⟨HL⟩; clear HL HLW HLN; have hcd : ((wr.alloc (.cells #[.int .i64 n, .int .i64 d] 23)).drewN dn).cell? ⟨wr.heap.size, 1, none⟩ = some (.int .i64 d) := HHC.out; have HRW : Sl (Below w.heap.size w ((wr.alloc (.cells #[.int .i64 n, .int .i64 d] 23)).drewN dn) ∧ Below w0.heap.size w0 ((wr.alloc (.cells #[.int .i64 n, .int .i64 d] 23)).drewN dn)) := ⟨below_drewN HRR.out.1 dn, below_drewN HRR.out.2 dn⟩; generalize (wr.alloc (.cells #[.int .i64 n, .int .i64 d] 23)).drewN dn = wp at *
                by_cases ha : a ≤ 120
                · have had : decide ((a : Int) ≤ 120) = true := by rw [decide_eq_true_iff]; omega
                  have hdv : (a : Int).tdiv (g2 : Int) = ((a / g2 : Nat) : Int) := by rw [Int.tdiv_eq_ediv_of_nonneg (by omega)]; exact (Int.natCast_ediv a g2).symm
                  have hq : a / g2 ≤ a := Nat.div_le_self _ _; have HMU : Sl (((a / g2 : Nat) : Int) * d = (a' : Int)) := ⟨by rw [HK.out.2, if_pos ha, Int.natCast_mul, show ((d.natAbs : Nat) : Int) = d by omega]⟩
                  have VA : Sl (∀ (W : World) q, Calls Tryz.prog 40 #[.int .i64 a, .int .i64 d] (W.drewN q) fun e w'' => e = .returned (.int .i64 g2) ∧ ∃ m, w'' = W.drewN m) := ⟨fun W q => by
                    have h := r5gcd_any a d.natAbs (W.drewN q) (by omega) (by omega); rw [HG2.out.2, show ((d.natAbs : Nat) : Int) = d by omega] at h
                    exact h.mono fun e w'' h => ⟨h.1, by obtain ⟨m, hm⟩ := h.2; exact ⟨q + m, by rw [hm, drew2]⟩⟩⟩
                  have hdv2 : (a : Int) / (g2 : Int) = ((a / g2 : Nat) : Int) := (Int.natCast_ediv a g2).symm; have hg01 : ¬ (g2 : Int) = 0 := by omega
                  have hg00 : ¬ g2 = 0 := by omega
                  have hg0b : ((g2 : Int) == 0) = false := by rw [beq_eq_false_iff_ne]; omega
                  generalize a / g2 = q2 at *
                  have hmb : 0 ≤ (q2 : Int) * d ∧ (q2 : Int) * d ≤ 69120 := by
                    have l1 := Int.mul_le_mul (show (q2 : Int) ≤ 2880 by omega) r2 (by omega) (by decide); exact ⟨Int.mul_nonneg (by omega) (by omega), by omega⟩
                  obtain ⟨hmb1, hmb2⟩ := hmb; clear ha hg2p; go_wp2_with fail
                  go_quiet ((go_at_call 40; (with_reducible exact VA.out _ _)))
                  go_wp2_with fail; refine ⟨⟨k + 1, hk12, by go_num, ret_val (by rw [HMU.out, HK.out.1]), ⟨below_drewN HRW.out.1 _, below_drewN HRW.out.2 _, HLS.out⟩⟩, by simp [RowKit.intOf]; omega⟩
                · have had : decide ((a : Int) ≤ 120) = false := by rw [decide_eq_false_iff_not]; omega
                  have HAE : Sl (a = a') := ⟨by rw [HK.out.2, if_neg ha]⟩; clear ha; go_wp2_with fail; refine ⟨⟨k + 1, hk12, by go_num, ret_val (by rw [HAE.out, HK.out.1]), ⟨HRW.out.1, HRW.out.2, HLS.out⟩⟩, by simp [RowKit.intOf]; omega⟩
              · have HL := HLN.out hg1; have HLS : Sl _ := ⟨HL⟩; have hgn : ((g : Int) != 1) = true := by rw [bne_iff_ne]; omega
                clear HL HLW HLN hg1; go_wp2_with fail; go_ret; exact ⟨by rw [HLS.out]; rfl, below_drewN HRR.out.1 dn⟩
            · have hm1 : max n (-n) = -n := by omega
              have hm3 : n < -n := by omega
              have HG : Sl (∀ W : World, Calls Tryz.prog 40 #[.int .i64 (-n), .int .i64 d] W fun e w' => e = .returned (.int .i64 g) ∧ ∃ m, w' = W.drewN m) := ⟨fun W => by
                have h := r5gcd_any n.natAbs d.natAbs W (by omega) (by omega); rw [HG2.out.1, show ((d.natAbs : Nat) : Int) = d by omega, show ((n.natAbs : Nat) : Int) = -n by omega] at h
                exact h⟩
              go_wp2_with fail; refine (HG.out _).mono ?_; rintro e w1 ⟨rfl, dn, rfl⟩
              by_cases hg1 : g = 1
              · subst hg1; have HL := HLW.out rfl; have HLS : Sl _ := ⟨HL⟩; clear HL HLW HLN; have hcd : ((wr.alloc (.cells #[.int .i64 n, .int .i64 d] 23)).drewN dn).cell? ⟨wr.heap.size, 1, none⟩ = some (.int .i64 d) := HHC.out; have HRW : Sl (Below w.heap.size w ((wr.alloc (.cells #[.int .i64 n, .int .i64 d] 23)).drewN dn) ∧ Below w0.heap.size w0 ((wr.alloc (.cells #[.int .i64 n, .int .i64 d] 23)).drewN dn)) := ⟨below_drewN HRR.out.1 dn, below_drewN HRR.out.2 dn⟩; generalize (wr.alloc (.cells #[.int .i64 n, .int .i64 d] 23)).drewN dn = wp at *
                by_cases ha : a ≤ 120
                · have had : decide ((a : Int) ≤ 120) = true := by rw [decide_eq_true_iff]; omega
                  have hdv : (a : Int).tdiv (g2 : Int) = ((a / g2 : Nat) : Int) := by rw [Int.tdiv_eq_ediv_of_nonneg (by omega)]; exact (Int.natCast_ediv a g2).symm
                  have hq : a / g2 ≤ a := Nat.div_le_self _ _; have HMU : Sl (((a / g2 : Nat) : Int) * d = (a' : Int)) := ⟨by rw [HK.out.2, if_pos ha, Int.natCast_mul, show ((d.natAbs : Nat) : Int) = d by omega]⟩
                  have VA : Sl (∀ (W : World) q, Calls Tryz.prog 40 #[.int .i64 a, .int .i64 d] (W.drewN q) fun e w'' => e = .returned (.int .i64 g2) ∧ ∃ m, w'' = W.drewN m) := ⟨fun W q => by
                    have h := r5gcd_any a d.natAbs (W.drewN q) (by omega) (by omega); rw [HG2.out.2, show ((d.natAbs : Nat) : Int) = d by omega] at h
                    exact h.mono fun e w'' h => ⟨h.1, by obtain ⟨m, hm⟩ := h.2; exact ⟨q + m, by rw [hm, drew2]⟩⟩⟩
                  have hdv2 : (a : Int) / (g2 : Int) = ((a / g2 : Nat) : Int) := (Int.natCast_ediv a g2).symm; have hg01 : ¬ (g2 : Int) = 0 := by omega
                  have hg00 : ¬ g2 = 0 := by omega
                  have hg0b : ((g2 : Int) == 0) = false := by rw [beq_eq_false_iff_ne]; omega
                  generalize a / g2 = q2 at *
                  have hmb : 0 ≤ (q2 : Int) * d ∧ (q2 : Int) * d ≤ 69120 := by
                    have l1 := Int.mul_le_mul (show (q2 : Int) ≤ 2880 by omega) r2 (by omega) (by decide); exact ⟨Int.mul_nonneg (by omega) (by omega), by omega⟩
                  obtain ⟨hmb1, hmb2⟩ := hmb; clear ha hg2p; go_wp2_with fail
                  go_quiet ((go_at_call 40; (with_reducible exact VA.out _ _)))
                  go_wp2_with fail; refine ⟨⟨k + 1, hk12, by go_num, ret_val (by rw [HMU.out, HK.out.1]), ⟨below_drewN HRW.out.1 _, below_drewN HRW.out.2 _, HLS.out⟩⟩, by simp [RowKit.intOf]; omega⟩
                · have had : decide ((a : Int) ≤ 120) = false := by rw [decide_eq_false_iff_not]; omega
                  have HAE : Sl (a = a') := ⟨by rw [HK.out.2, if_neg ha]⟩; clear ha; go_wp2_with fail; refine ⟨⟨k + 1, hk12, by go_num, ret_val (by rw [HAE.out, HK.out.1]), ⟨HRW.out.1, HRW.out.2, HLS.out⟩⟩, by simp [RowKit.intOf]; omega⟩
              · have HL := HLN.out hg1; have HLS : Sl _ := ⟨HL⟩; have hgn : ((g : Int) != 1) = true := by rw [bne_iff_ne]; omega
                clear HL HLW HLN hg1; go_wp2_with fail; go_ret; exact ⟨by rw [HLS.out]; rfl, below_drewN HRR.out.1 dn⟩
          · obtain rfl : k = 12 := by omega
            have hf := HF3.out (by simp) (by simp) HR.out.2.2; obtain ⟨a, ha⟩ : ∃ z, t.all 12 = z := ⟨_, rfl⟩; rw [ha] at hf ⊢; have HFS : Sl _ := ⟨hf⟩; clear hf ha HF1 HF2 HF3 HF4 HAL hk12
            by_cases h120 : 120 < a
            · go_wp2_with fail; go_ret; exact ⟨by rw [HFS.out, if_pos h120]; rfl, HR.out.1⟩
            · go_wp2_with fail; go_ret; exact ⟨by rw [HFS.out, if_neg h120]; rfl, HR.out.1⟩
      · have HS6 : Sl _ := ⟨HF2.out hz⟩
        by_cases hz0 : wn = 0
        · have hz1 : ¬ wd = 1 := fun h => hz ⟨hz0, h⟩
          have hzb : ((wd : Int) == 1) = false := by rw [beq_eq_false_iff_ne]; exact hz1
          subst hz0; clear hz; go_wp2_with fail; go_ret; exact ⟨by rw [HS6.out]; rfl, HB.out.1⟩
        · have hzb : ((wn : Int) == 0) = false := by rw [beq_eq_false_iff_ne]; exact hz0
          clear hz; go_wp2_with fail; go_ret; exact ⟨by rw [HS6.out]; rfl, HB.out.1⟩
end Go.Proofs.YtmcoadmnkelkkaaGreatDoor
namespace Go.Proofs.YtmcoadmnkelkkaaGreatDoor
set_option linter.unusedSimpArgs false
open Go.ChangeShapes Go.WideShapes Go.ChangeAt Go.RowKit
set_option linter.unusedVariables false
set_option maxRecDepth 100000 in
theorem open_part {H : Type} {enc : TypeId × Value → H} {W : World} {b : Nat} {spare : Nat → Bool} {held : Bool} {fuel : Nat} {cs : List Value} {x : DataW H × List MemPlace} (h : DataW.trod enc Tryz.prog W b spare held fuel 23 cs = some x) :
    ∃ z0 z1 : Int, cs = [.int .i64 z0, .int .i64 z1] ∧ x.2 = [] := by
  obtain ⟨y0, y1, n, hx, hl, h0, h1⟩ := trod_struct2 Tryz.underlying23 h; obtain ⟨z0, c0, rfl, _⟩ := DataW.trod_int Tryz.underlying3 h0; obtain ⟨z1, c1, rfl, _⟩ := DataW.trod_int Tryz.underlying3 h1; have hc : Tryz.prog.cellsOf 3 = 1 := by kernel_rfl
  have hc2 : Tryz.prog.cellsOf 23 = 2 := by kernel_rfl
  rw [hc2] at hl; simp only [hc] at c0 c1; refine ⟨z0, z1, ?_, ?_⟩
  · match cs, hl with
    | [a0, a1], _ =>
      simp at c0 c1; rw [c0, c1]
  · simp only [Prod.mk.injEq] at hx; rw [hx]; rfl
set_option maxRecDepth 100000 in
set_option maxHeartbeats 1600000 in
theorem open_parts {H : Type} {enc : TypeId × Value → H} {W : World} {b : Nat} {spare : Nat → Bool} {held : Bool} {fuel : Nat} {cs : List Value} {x : DataW H × List MemPlace} (h : DataW.trod enc Tryz.prog W b spare held fuel 24 cs = some x) :
    ∃ n d : Nat → Int, cs = (TV.mk ⟨#[]⟩ false 0 n d).parts.toList ∧ x.2 = [] := by
  obtain ⟨ys, m, rfl, rfl, hl, hn, hf⟩ := DataW.trod_array Tryz.underlying24 h; have hc : Tryz.prog.cellsOf 23 = 2 := by kernel_rfl
  have hc24 : Tryz.prog.cellsOf 24 = 24 := by kernel_rfl
  rw [hc24] at hl
  match cs, hl, ys, hn with
  | [c0, c1, c2, c3, c4, c5, c6, c7, c8, c9, c10, c11, c12, c13, c14, c15, c16, c17, c18, c19, c20, c21, c22, c23], _, [y0, y1, y2, y3, y4, y5, y6, y7, y8, y9, y10, y11], _ =>
    have g0 := hf 0 (by omega); have g1 := hf 1 (by omega); have g2 := hf 2 (by omega); have g3 := hf 3 (by omega); have g4 := hf 4 (by omega); have g5 := hf 5 (by omega); have g6 := hf 6 (by omega); have g7 := hf 7 (by omega); have g8 := hf 8 (by omega); have g9 := hf 9 (by omega); have g10 := hf 10 (by omega); have g11 := hf 11 (by omega); simp [hc] at g0 g1 g2 g3 g4 g5 g6 g7 g8 g9 g10 g11; obtain ⟨n0, d0, e0, p0⟩ := open_part g0; obtain ⟨n1, d1, e1, p1⟩ := open_part g1; obtain ⟨n2, d2, e2, p2⟩ := open_part g2; obtain ⟨n3, d3, e3, p3⟩ := open_part g3; obtain ⟨n4, d4, e4, p4⟩ := open_part g4; obtain ⟨n5, d5, e5, p5⟩ := open_part g5; obtain ⟨n6, d6, e6, p6⟩ := open_part g6; obtain ⟨n7, d7, e7, p7⟩ := open_part g7; obtain ⟨n8, d8, e8, p8⟩ := open_part g8; obtain ⟨n9, d9, e9, p9⟩ := open_part g9; obtain ⟨n10, d10, e10, p10⟩ := open_part g10; obtain ⟨n11, d11, e11, p11⟩ := open_part g11; simp at e0 e1 e2 e3 e4 e5 e6 e7 e8 e9 e10 e11; obtain ⟨rfl, rfl⟩ := e0; obtain ⟨rfl, rfl⟩ := e1; obtain ⟨rfl, rfl⟩ := e2; obtain ⟨rfl, rfl⟩ := e3; obtain ⟨rfl, rfl⟩ := e4; obtain ⟨rfl, rfl⟩ := e5; obtain ⟨rfl, rfl⟩ := e6; obtain ⟨rfl, rfl⟩ := e7; obtain ⟨rfl, rfl⟩ := e8; obtain ⟨rfl, rfl⟩ := e9; obtain ⟨rfl, rfl⟩ := e10; obtain ⟨rfl, rfl⟩ := e11; refine ⟨fun i => if i = 0 then n0 else if i = 1 then n1 else if i = 2 then n2 else if i = 3 then n3 else if i = 4 then n4 else if i = 5 then n5 else if i = 6 then n6 else if i = 7 then n7 else if i = 8 then n8 else if i = 9 then n9 else if i = 10 then n10 else n11, fun i => if i = 0 then d0 else if i = 1 then d1 else if i = 2 then d2 else if i = 3 then d3 else if i = 4 then d4 else if i = 5 then d5 else if i = 6 then d6 else if i = 7 then d7 else if i = 8 then d8 else if i = 9 then d9 else if i = 10 then d10 else d11, rfl, ?_⟩; simp [p0, p1, p2, p3, p4, p5, p6, p7, p8, p9, p10, p11]
set_option maxRecDepth 100000 in
set_option maxHeartbeats 1600000 in
/-- a temperament as an argument -/
theorem temper_arg {H : Type} {enc : TypeId × Value → H} {W : World} {base : Nat} {v : Value} {d : DataW H} {ps : List MemPlace} (hval : Value.okWide Tryz.prog W .any base 26 v) (h : DataW.Trod enc Tryz.prog W 0 (fun _ => true) true 26 v d ps) :
    ∃ t : TV, v = .agg t.cells ∧ t.nm.size ≤ maxLen ∧ ps = [] := by
  obtain ⟨ws, rfl, _⟩ := okWide_struct Tryz.underlying26 hval; obtain ⟨fuel, h⟩ := h; obtain ⟨y0, y1, y2, y3, n, hx, hl, h0, h1, h2, h3⟩ := Go.Joins.trod_struct4 Tryz.underlying26 h; obtain ⟨s, c0, rfl, hs⟩ := DataW.trod_string Tryz.underlying9 h0; obtain ⟨b, c1, rfl⟩ := DataW.trod_bool Tryz.underlying4 h1; obtain ⟨z, c2, rfl, _⟩ := DataW.trod_int Tryz.underlying3 h2; obtain ⟨nn, dd, c3, p3⟩ := open_parts h3; have hcs : Tryz.prog.cellsOf 9 = 1 := by kernel_rfl
  have hcb : Tryz.prog.cellsOf 4 = 1 := by kernel_rfl
  have hci : Tryz.prog.cellsOf 3 = 1 := by kernel_rfl
  have hcp : Tryz.prog.cellsOf 24 = 24 := by kernel_rfl
  have hct : Tryz.prog.cellsOf 26 = 27 := by kernel_rfl
  simp only [Value.cells] at hl c0 c1 c2 c3; rw [hct] at hl; simp only [hcs, hcb, hci, hcp] at c0 c1 c2 c3; refine ⟨⟨s, b, z, nn, dd⟩, ?_, hs, ?_⟩
  · obtain ⟨l⟩ := ws; simp only at hl c0 c1 c2 c3
    match l, hl with
    | a0 :: a1 :: a2 :: r, hl =>
      simp at c0 c1 c2 c3 hl; subst c0 c1 c2
      have hr : r = (TV.mk ⟨#[]⟩ false 0 nn dd).parts.toList := by
        rw [← c3, List.take_of_length_le (by omega)]
      subst hr; rfl
  · simp only [Prod.mk.injEq] at hx; rw [hx.2, p3]; rfl
end Go.Proofs.YtmcoadmnkelkkaaGreatDoor
namespace Go.Proofs.YtmcoadmnkelkkaaGreatDoor
set_option linter.unusedSimpArgs false
set_option linter.unusedVariables false
theorem rmul_le {a b c d : Rat} (h1 : a ≤ b) (h2 : c ≤ d) (hc : 0 < c) (hb : 0 < b) : a * c ≤ b * d :=
  Rat.le_trans (Rat.mul_le_mul_of_nonneg_right h1 (Rat.le_of_lt hc)) (Rat.mul_le_mul_of_nonneg_left h2 (Rat.le_of_lt hb))
theorem rlt_of_le {a b c : Rat} (h1 : a < b) (h2 : b ≤ c) : a < c := Rat.not_le.1 fun h => Rat.not_le.2 h1 (Rat.le_trans h2 h)
theorem rlt_of_lt {a b c : Rat} (h1 : a ≤ b) (h2 : b < c) : a < c := Rat.not_le.1 fun h => Rat.not_le.2 h2 (Rat.le_trans h h1)
theorem rmul_lt {a b c d : Rat} (h1 : a < b) (h2 : c ≤ d) (hc : 0 < c) (hb : 0 < b) : a * c < b * d :=
  rlt_of_le (Rat.mul_lt_mul_of_pos_right h1 hc) (Rat.mul_le_mul_of_nonneg_left h2 (Rat.le_of_lt hb))
theorem rcancel {a b c : Rat} (hc : 0 < c) (h : a * c ≤ b * c) : a ≤ b := Rat.not_lt.1 fun hl => Rat.not_le.2 (Rat.mul_lt_mul_of_pos_right hl hc) h
theorem rcancel_lt {a b c : Rat} (hc : 0 < c) (h : a * c < b * c) : a < b := Rat.not_le.1 fun hl => Rat.not_lt.2 (Rat.mul_le_mul_of_nonneg_right hl (Rat.le_of_lt hc)) h
theorem two_ne : (2 : Rat) ≠ 0 := by decide
theorem two_pos : (0 : Rat) < 2 := by decide
theorem one_lt_two_pow : ∀ n : Nat, (1 : Rat) < 2 ^ (((n + 1 : Nat)) : Int)
  | 0 => by rw [Rat.zpow_natCast]; decide
  | n+1 => by
    have ih := one_lt_two_pow n; rw [show (((n + 1 + 1 : Nat)) : Int) = ((n + 1 : Nat) : Int) + 1 by omega, Rat.zpow_add two_ne, Rat.zpow_one]; have : (1 : Rat) * 1 < 2 ^ (((n + 1 : Nat)) : Int) * 2 := rmul_lt ih (by decide) (by decide) (Rat.zpow_pos two_pos)
    rwa [Rat.mul_one] at this
theorem two_lt {x y : Int} (h : x < y) : (2 : Rat) ^ x < 2 ^ y := by
  obtain ⟨n, hn⟩ : ∃ n : Nat, y = x + ((n + 1 : Nat) : Int) := ⟨(y - x - 1).toNat, by omega⟩; have h1 := one_lt_two_pow n; have h2 := Rat.mul_lt_mul_of_pos_left h1 (Rat.zpow_pos (n := x) two_pos); rw [hn, Rat.zpow_add two_ne]
  rwa [Rat.mul_one] at h2
theorem two_le {x y : Int} (h : x ≤ y) : (2 : Rat) ^ x ≤ 2 ^ y := by
  rcases Int.lt_or_eq_of_le h with h | rfl
  · exact Rat.le_of_lt (two_lt h)
  · exact Rat.le_refl
/-- the product of six primes with exponents f -/
def pv (f : Nat → Int) : Nat → Rat
  | 0 => 1
  | i+1 => pv f i * ((prime i : Nat) : Rat) ^ (f i)
theorem prime_pos {i : Nat} (hi : i < 6) : (0 : Rat) < ((prime i : Nat) : Rat) := by
  have := (prime_two hi).1; exact Rat.natCast_pos.2 (by omega)
theorem pv_pos (f : Nat → Int) : ∀ i, i ≤ 6 → 0 < pv f i
  | 0, _ => by unfold pv; decide
  | i+1, hi => Rat.mul_pos (pv_pos f i (by omega)) (Rat.zpow_pos (prime_pos (by omega)))
theorem pv_congr {f g : Nat → Int} : ∀ i, (∀ j, j < i → f j = g j) → pv f i = pv g i
  | 0, _ => rfl
  | i+1, h => by rw [pv, pv, pv_congr i fun j hj => h j (by omega), h i (by omega)]
theorem pv_add (f g : Nat → Int) : ∀ i, i ≤ 6 → pv (fun j => f j + g j) i = pv f i * pv g i
  | 0, _ => by unfold pv; rw [Rat.mul_one]
  | i+1, hi => by
    rw [pv, pv, pv, pv_add f g i (by omega), Rat.zpow_add (Rat.ne_of_gt (prime_pos (by omega)))]; grind
theorem pv_zero : ∀ i, pv (fun _ => 0) i = 1
  | 0 => rfl
  | i+1 => by rw [pv, pv_zero i, Rat.zpow_zero, Rat.mul_one]
/-- 2^x is at most, less than, equal to the product -/
def TT (x : Int) (f : Nat → Int) : Prop := (2 : Rat) ^ x ≤ pv f 6
def SS (x : Int) (f : Nat → Int) : Prop := pv f 6 < (2 : Rat) ^ x
def QQ (x : Int) (f : Nat → Int) : Prop := pv f 6 = (2 : Rat) ^ x
theorem not_TT {x : Int} {f : Nat → Int} : ¬ TT x f ↔ SS x f := Rat.not_le
theorem not_SS {x : Int} {f : Nat → Int} : ¬ SS x f ↔ TT x f := Rat.not_lt
theorem TT.lt {x y : Int} {f : Nat → Int} (h : TT x f) (h2 : SS y f) : x < y := by
  rcases Int.lt_or_le x y with h0 | h0
  · exact h0
  · exact absurd (rlt_of_le h2 (two_le h0)) (Rat.not_lt.2 h)
theorem TT.add {x y : Int} {f g : Nat → Int} (h1 : TT x f) (h2 : TT y g) : TT (x + y) (fun j => f j + g j) := by
  unfold TT; rw [pv_add f g 6 (Nat.le_refl _), Rat.zpow_add two_ne]; exact rmul_le h1 h2 (Rat.zpow_pos two_pos) (pv_pos f 6 (Nat.le_refl _))
theorem SS.add {x y : Int} {f g : Nat → Int} (h1 : SS x f) (h2 : SS y g) : SS (x + y) (fun j => f j + g j) := by
  unfold SS; rw [pv_add f g 6 (Nat.le_refl _), Rat.zpow_add two_ne]; exact rmul_lt h1 (Rat.le_of_lt h2) (pv_pos g 6 (Nat.le_refl _)) (Rat.zpow_pos two_pos)
theorem QQ.add {x y : Int} {f g : Nat → Int} (h1 : QQ x f) (h2 : QQ y g) : QQ (x + y) (fun j => f j + g j) := by
  unfold QQ at *
  rw [pv_add f g 6 (Nat.le_refl _), Rat.zpow_add two_ne, h1, h2]
theorem TT.congr {x : Int} {f g : Nat → Int} (h : TT x f) (e : ∀ j, j < 6 → f j = g j) : TT x g := by unfold TT at *; rwa [← pv_congr 6 e]
theorem SS.congr {x : Int} {f g : Nat → Int} (h : SS x f) (e : ∀ j, j < 6 → f j = g j) : SS x g := by unfold SS at *; rwa [← pv_congr 6 e]
theorem QQ.congr {x : Int} {f g : Nat → Int} (h : QQ x f) (e : ∀ j, j < 6 → f j = g j) : QQ x g := by unfold QQ at *; rwa [← pv_congr 6 e]
theorem TT.scale {x : Int} {f : Nat → Int} (h : TT x f) : ∀ n : Nat, TT (x * n) (fun j => f j * n)
  | 0 => by
    unfold TT; simp only [Int.natCast_zero, Int.mul_zero]; rw [pv_zero, Rat.zpow_zero]; exact Rat.le_refl
  | n+1 => by
    have := (TT.scale h n).add h; rw [show x * ((n + 1 : Nat) : Int) = x * n + x by rw [Int.natCast_succ, Int.mul_add, Int.mul_one]]; exact this.congr fun j _ => by rw [Int.natCast_succ, Int.mul_add, Int.mul_one]
theorem SS.scale {x : Int} {f : Nat → Int} (h : SS x f) : ∀ n : Nat, SS (x * (n + 1 : Nat)) (fun j => f j * (n + 1 : Nat))
  | 0 => by simpa using h
  | n+1 => by
    have := (SS.scale h n).add h; rw [show x * ((n + 1 + 1 : Nat) : Int) = x * ((n + 1 : Nat) : Int) + x by rw [Int.natCast_succ (n + 1), Int.mul_add, Int.mul_one]]; exact this.congr fun j _ => by rw [Int.natCast_succ (n + 1), Int.mul_add, Int.mul_one]
theorem QQ.scale {x : Int} {f : Nat → Int} (h : QQ x f) : ∀ n : Nat, QQ (x * n) (fun j => f j * n)
  | 0 => by
    unfold QQ; simp only [Int.natCast_zero, Int.mul_zero]; rw [pv_zero, Rat.zpow_zero]
  | n+1 => by
    have := (QQ.scale h n).add h; rw [show x * ((n + 1 : Nat) : Int) = x * n + x by rw [Int.natCast_succ, Int.mul_add, Int.mul_one]]; exact this.congr fun j _ => by rw [Int.natCast_succ, Int.mul_add, Int.mul_one]
theorem SS.scale' {x : Int} {f : Nat → Int} (h : SS x f) {n : Nat} (hn : 0 < n) : SS (x * n) (fun j => f j * n) := by
  obtain ⟨m, rfl⟩ : ∃ m, n = m + 1 := ⟨n - 1, by omega⟩; exact h.scale m
theorem TT.unscale {x : Int} {f : Nat → Int} {n : Nat} (hn : 0 < n) (h : TT (x * n) (fun j => f j * n)) : TT x f :=
  not_SS.1 fun hs => not_SS.2 h (hs.scale' hn)
theorem SS.unscale {x : Int} {f : Nat → Int} {n : Nat} (h : SS (x * n) (fun j => f j * n)) : SS x f :=
  not_TT.1 fun ht => not_TT.2 h (ht.scale n)
/-- the product is more than a power of 2 -/
def GG (x : Int) (f : Nat → Int) : Prop := (2 : Rat) ^ x < pv f 6
theorem GG.add {x y : Int} {f g : Nat → Int} (h1 : GG x f) (h2 : GG y g) : GG (x + y) (fun j => f j + g j) := by
  unfold GG; rw [pv_add f g 6 (Nat.le_refl _), Rat.zpow_add two_ne]; exact rmul_lt h1 (Rat.le_of_lt h2) (Rat.zpow_pos two_pos) (pv_pos f 6 (Nat.le_refl _))
theorem GG.congr {x : Int} {f g : Nat → Int} (h : GG x f) (e : ∀ j, j < 6 → f j = g j) : GG x g := by unfold GG at *; rwa [← pv_congr 6 e]
theorem GG.scale {x : Int} {f : Nat → Int} (h : GG x f) : ∀ n : Nat, GG (x * (n + 1 : Nat)) (fun j => f j * (n + 1 : Nat))
  | 0 => by simpa using h
  | n+1 => by
    have := (GG.scale h n).add h; rw [show x * ((n + 1 + 1 : Nat) : Int) = x * ((n + 1 : Nat) : Int) + x by rw [Int.natCast_succ (n + 1), Int.mul_add, Int.mul_one]]; exact this.congr fun j _ => by rw [Int.natCast_succ (n + 1), Int.mul_add, Int.mul_one]
theorem QQ.unscale {x : Int} {f : Nat → Int} {n : Nat} (hn : 0 < n) (h : QQ (x * n) (fun j => f j * n)) : QQ x f := by
  obtain ⟨m, rfl⟩ : ∃ m, n = m + 1 := ⟨n - 1, by omega⟩; have hT : TT x f := TT.unscale hn (show (2 : Rat) ^ _ ≤ _ by rw [h]; exact Rat.le_refl); refine Rat.le_antisymm (Rat.not_lt.1 fun hg => ?_) hT; have h2 : GG (x * ((m + 1 : Nat) : Int)) (fun j => f j * ((m + 1 : Nat) : Int)) := GG.scale hg m; unfold GG at h2; rw [h] at h2; exact Rat.lt_irrefl h2
/-- the value of a list of powers -/
def vl : List (Nat × Int) → Rat
  | [] => 1
  | (n, k) :: l => ((n : Nat) : Rat) ^ k * vl l
theorem vl_append : ∀ l m : List (Nat × Int), vl (l ++ m) = vl l * vl m
  | [], m => by rw [List.nil_append, vl]; grind
  | (n, k) :: l, m => by rw [List.cons_append, vl, vl, vl_append l m]; grind
theorem vl_up : ∀ {l : List (Nat × Int)}, (∀ x ∈ l, 0 < x.1) → vl l * ((down l : Nat) : Rat) = ((up l : Nat) : Rat)
  | [], _ => by unfold vl up down; rw [Rat.one_mul]
  | (n, k) :: l, h => by
    have ih := vl_up fun x hx => h x (List.mem_cons_of_mem _ hx)
    have hn : ((n : Nat) : Rat) ≠ 0 := Rat.ne_of_gt (Rat.natCast_pos.2 (h _ List.mem_cons_self)); rw [vl, up, down]
    split
    · rename_i h0; rw [Rat.natCast_mul, Rat.natCast_pow, ← Rat.zpow_natCast, show ((k.natAbs : Nat) : Int) = k by omega, ← ih]; grind
    · rename_i h0; rw [Rat.natCast_mul, Rat.natCast_pow, ← Rat.zpow_natCast, ← ih]
      have e : ((n : Nat) : Rat) ^ k * ((n : Nat) : Rat) ^ ((k.natAbs : Nat) : Int) = 1 := by
        rw [← Rat.zpow_add hn, show k + ((k.natAbs : Nat) : Int) = 0 by omega, Rat.zpow_zero]
      generalize ((n : Nat) : Rat) ^ k = a at *
      generalize ((n : Nat) : Rat) ^ ((k.natAbs : Nat) : Int) = b at *
      grind
theorem down_pos : ∀ {l : List (Nat × Int)}, (∀ x ∈ l, 0 < x.1) → 0 < down l
  | [], _ => by unfold down; decide
  | (n, k) :: l, h => by
    have ih := down_pos fun x hx => h x (List.mem_cons_of_mem _ hx)
    rw [down]
    split
    · exact ih
    · exact Nat.mul_pos (Nat.pow_pos (h _ List.mem_cons_self)) ih
theorem sgn_vl {l : List (Nat × Int)} (h : ∀ x ∈ l, 0 < x.1) : (0 ≤ sgn l ↔ 1 ≤ vl l) ∧ (sgn l ≤ 0 ↔ vl l ≤ 1) := by
  have h1 := vl_up h; have hd : (0 : Rat) < ((down l : Nat) : Rat) := Rat.natCast_pos.2 (down_pos h)
  have e1 : (1 : Rat) ≤ vl l ↔ down l ≤ up l := by
    rw [← Rat.natCast_le_natCast, ← h1]; exact ⟨fun g => by have := Rat.mul_le_mul_of_nonneg_right g (Rat.le_of_lt hd); rwa [Rat.one_mul] at this, fun g => rcancel hd (by rwa [Rat.one_mul])⟩
  have e2 : vl l ≤ 1 ↔ up l ≤ down l := by
    rw [← Rat.natCast_le_natCast, ← h1]; exact ⟨fun g => by have := Rat.mul_le_mul_of_nonneg_right g (Rat.le_of_lt hd); rwa [Rat.one_mul] at this, fun g => rcancel hd (by rwa [Rat.one_mul])⟩
  rw [e1, e2]; unfold sgn; constructor
  · split
    · exact ⟨fun _ => by omega, fun _ => by decide⟩
    · split
      · exact ⟨fun g => absurd g (by decide), fun g => by omega⟩
      · exact ⟨fun _ => by omega, fun _ => by decide⟩
  · split
    · exact ⟨fun g => absurd g (by decide), fun g => by omega⟩
    · split
      · exact ⟨fun _ => by omega, fun _ => by decide⟩
      · exact ⟨fun _ => by omega, fun _ => by decide⟩
end Go.Proofs.YtmcoadmnkelkkaaGreatDoor
namespace Go.Proofs.YtmcoadmnkelkkaaGreatDoor
set_option linter.unusedSimpArgs false
set_option linter.unusedVariables false
theorem vl_scaled (r : RV) (s : Int) : ∀ i, vl (scaled (termsN r i) s) = pv (fun j => r.num j * s) i
  | 0 => rfl
  | i+1 => by
    rw [termsN, pv, ← vl_scaled r s i]
    split
    · rename_i h; rw [h, Int.zero_mul, Rat.zpow_zero, Rat.mul_one]
    · rw [scaled_snoc, vl_append, vl, vl, Rat.mul_one]
theorem two_inv (x : Int) : (2 : Rat) ^ (-x) * 2 ^ x = 1 := by rw [← Rat.zpow_add two_ne, show -x + x = 0 by omega, Rat.zpow_zero]
theorem atM_pos (r : RV) (s den m : Int) : ∀ x ∈ atM (termsN r 6) s den m, 0 < x.1 := by
  intro x hx; unfold atM at hx; rw [List.mem_append] at hx; rcases hx with hx | hx
  · unfold scaled at hx; obtain ⟨y, hy, rfl⟩ := List.mem_map.1 hx; obtain ⟨j, hj, rfl⟩ := mem_termsN r 6 (Nat.le_refl _) y hy; have := (prime_two hj).1; show 0 < prime j; omega
  · simp only [List.mem_singleton] at hx; subst hx; show 0 < 2
    decide
theorem atM_vl (r : RV) (s den m : Int) : vl (atM (termsN r 6) s den m) * 2 ^ (m * den) = pv (fun j => r.num j * s) 6 := by
  unfold atM; rw [vl_append, vl_scaled, vl, vl, Rat.mul_one, Int.neg_mul]; have := two_inv (m * den); generalize pv (fun j => r.num j * s) 6 = p at *
  rw [Rat.mul_assoc]; show p * ((2 : Rat) ^ (-(m * den)) * 2 ^ (m * den)) = p; rw [this, Rat.mul_one]
theorem sgM_TT (r : RV) (s den m : Int) : 0 ≤ sgn (atM (termsN r 6) s den m) ↔ TT (m * den) (fun j => r.num j * s) := by
  rw [(sgn_vl (atM_pos r s den m)).1]; unfold TT; rw [← atM_vl r s den m]; have hp : (0 : Rat) < 2 ^ (m * den) := Rat.zpow_pos two_pos; exact ⟨fun g => by have := Rat.mul_le_mul_of_nonneg_right g (Rat.le_of_lt hp); rwa [Rat.one_mul] at this, fun g => rcancel hp (by rwa [Rat.one_mul])⟩
theorem sgM_SS (r : RV) (s den m : Int) : sgn (atM (termsN r 6) s den m) < 0 ↔ SS (m * den) (fun j => r.num j * s) := by
  rw [← not_TT, ← sgM_TT]; omega
theorem sgn_eq {l : List (Nat × Int)} : up l = down l ↔ sgn l = 0 := by
  refine ⟨sgn_one, fun h => ?_⟩; unfold sgn at h
  split at h
  · exact absurd h (by decide)
  · split at h
    · exact absurd h (by decide)
    · omega
theorem sgM_QQ (r : RV) (s den m : Int) : up (atM (termsN r 6) s den m) = down (atM (termsN r 6) s den m) ↔ QQ (m * den) (fun j => r.num j * s) := by
  rw [sgn_eq]; have h := sgn_vl (atM_pos r s den m); have hv := atM_vl r s den m
  have e : sgn (atM (termsN r 6) s den m) = 0 ↔ vl (atM (termsN r 6) s den m) = 1 := by
    constructor
    · intro g; exact Rat.le_antisymm (h.2.1 (by omega)) (h.1.1 (by omega))
    · intro g; have a := h.1.2 (by rw [g]; exact Rat.le_refl); have b := h.2.2 (by rw [g]; exact Rat.le_refl); omega
  rw [e]; unfold QQ; rw [← hv]; constructor
  · intro g; rw [g, Rat.one_mul]
  · intro g; have hp : (0 : Rat) < 2 ^ (m * den) := Rat.zpow_pos two_pos; exact Rat.le_antisymm (rcancel hp (by rw [g, Rat.one_mul]; exact Rat.le_refl)) (rcancel hp (by rw [g, Rat.one_mul]; exact Rat.le_refl))
/-- what Cents tells of a ratio -/
structure Ce (r : RV) (m : Int) (b : Bool) : Prop where
  ok : checkS r = 0
  lo : TT (m * r.d) (fun j => r.num j * 1200000)
  hi : SS ((m + 1) * r.d) (fun j => r.num j * 1200000)
  ex : b = true ↔ QQ (m * r.d) (fun j => r.num j * 1200000)
theorem Ce.of {r : RV} {m er : Int} {b : Bool} (h : CentsRes (.returned (.tuple #[.int .i64 m, .bool b, .int .i64 er])) r) (he : er = 0) : Ce r m b := by
  by_cases h0 : checkS r = 0
  · have h1 := h.2 h0; unfold FloorRes at h1
    split at h1
    · injection h1 with h1
      injection h1 with h1
      simp at h1; omega
    · obtain ⟨m', _, _, g1, g2, h1⟩ := h1; injection h1 with h1
      injection h1 with h1
      simp at h1; obtain ⟨rfl, hb, _⟩ := h1; refine ⟨h0, (sgM_TT r 1200000 r.d m).1 g1, (sgM_SS r 1200000 r.d (m + 1)).1 g2, ?_⟩; rw [← sgM_QQ, hb]; exact decide_eq_true_iff
  · have h1 := h.1 h0; injection h1 with h1
    injection h1 with h1
    simp at h1; exact absurd (h1.2.2.symm.trans he) h0
/-- lowest terms -/
theorem mkR_numg (R : RV) {j : Nat} (hj : j < 6) : (mkR R).num j * ((R.gcd 6 : Nat) : Int) = R.num j := by
  rw [mkR_num R hj]; exact Int.tdiv_mul_cancel (Int.ofNat_dvd_left.2 ((RV.gcd_dvd R 6).2 j hj))
theorem mkR_dg (R : RV) : (mkR R).d * ((R.gcd 6 : Nat) : Int) = R.d := Int.tdiv_mul_cancel (Int.ofNat_dvd_left.2 (RV.gcd_dvd R 6).1)
end Go.Proofs.YtmcoadmnkelkkaaGreatDoor
namespace Go.Proofs.YtmcoadmnkelkkaaGreatDoor
set_option linter.unusedSimpArgs false
set_option linter.unusedVariables false
theorem QQ.tt {x : Int} {f : Nat → Int} (h : QQ x f) : TT x f := by unfold TT; rw [h]; exact Rat.le_refl
theorem QQ.neg {x : Int} {f : Nat → Int} (h : QQ x f) : QQ (-x) (fun j => -f j) := by
  unfold QQ at *
  have h1 := pv_add f (fun j => -f j) 6 (Nat.le_refl _); have h2 : pv (fun j => f j + -f j) 6 = 1 := by rw [pv_congr (g := fun _ => 0) 6 (fun j _ => by show f j + -f j = 0; omega), pv_zero]
  rw [h2, h] at h1; have h3 := two_inv x; have hp : (0 : Rat) < 2 ^ x := Rat.zpow_pos two_pos; refine Rat.le_antisymm (rcancel hp ?_) (rcancel hp ?_)
  · rw [h3, h1, Rat.mul_comm]; exact Rat.le_refl
  · rw [h3, h1, Rat.mul_comm]; exact Rat.le_refl
theorem SS.addQ {x y : Int} {f g : Nat → Int} (h1 : SS x f) (h2 : QQ y g) : SS (x + y) (fun j => f j + g j) := by
  unfold SS at *
  rw [pv_add f g 6 (Nat.le_refl _), Rat.zpow_add two_ne, h2]; exact Rat.mul_lt_mul_of_pos_right h1 (Rat.zpow_pos two_pos)
theorem TT.qle {x y : Int} {f : Nat → Int} (h1 : TT x f) (h2 : QQ y f) : x ≤ y := by
  rcases Int.lt_or_le y x with h | h
  · exfalso; unfold TT at h1; rw [h2] at h1; exact Rat.not_lt.2 h1 (two_lt h)
  · exact h
theorem TT.cast {x y : Int} {f g : Nat → Int} (h : TT x f) (e : x = y) (e2 : ∀ j, j < 6 → f j = g j) : TT y g := e ▸ h.congr e2
theorem SS.cast {x y : Int} {f g : Nat → Int} (h : SS x f) (e : x = y) (e2 : ∀ j, j < 6 → f j = g j) : SS y g := e ▸ h.congr e2
theorem QQ.cast {x y : Int} {f g : Nat → Int} (h : QQ x f) (e : x = y) (e2 : ∀ j, j < 6 → f j = g j) : QQ y g := e ▸ h.congr e2
theorem lt_of_mul_lt {a b d : Int} (hd : 1 ≤ d) (h : a * d < b * d) : a < b := by
  rcases Int.lt_or_le a b with g | g
  · exact g
  · exact absurd (Int.mul_le_mul_of_nonneg_right g (by omega : 0 ≤ d)) (by omega)
/-- a power of 2 as exponents -/
theorem oct_QQ (y : Int) : QQ y (fun j => if j = 0 then y else 0) := by
  unfold QQ
  have h : ∀ i, pv (fun j => if j = 0 then y else 0) (i + 1) = (2 : Rat) ^ y := by
    intro i
    induction i with
    | zero =>
      rw [pv, pv, if_pos rfl, Rat.one_mul]; rfl
    | succ i ih => rw [pv, ih, if_neg (by omega), Rat.zpow_zero, Rat.mul_one]
  exact h 5
end Go.Proofs.YtmcoadmnkelkkaaGreatDoor
namespace Go.Proofs.YtmcoadmnkelkkaaGreatDoor
set_option linter.unusedSimpArgs false
set_option linter.unusedVariables false
theorem prime_le {i : Nat} (hi : i < 6) (k : Int) (hk : k ≤ 100000) : ((prime i : Nat) : Rat) ^ k ≤ 2 ^ (400000 : Int) := by
  have hp := prime_two hi; rcases Int.lt_or_le k 0 with h | h
  · obtain ⟨n, rfl⟩ : ∃ n : Nat, k = -(n : Int) := ⟨k.natAbs, by omega⟩; have hne : ((prime i : Nat) : Rat) ≠ 0 := Rat.ne_of_gt (prime_pos hi); have e : ((prime i : Nat) : Rat) ^ (-(n : Int)) * ((prime i : Nat) : Rat) ^ (n : Int) = 1 := by rw [← Rat.zpow_add hne, show -(n : Int) + (n : Int) = 0 by omega, Rat.zpow_zero]
    have h1 : (1 : Rat) ≤ ((prime i : Nat) : Rat) ^ (n : Int) := by
      rw [Rat.zpow_natCast, ← Rat.natCast_pow]; have : 1 ≤ prime i ^ n := Nat.pow_pos (by omega); exact Rat.natCast_le_natCast.2 this
    have h2 : ((prime i : Nat) : Rat) ^ (-(n : Int)) ≤ 1 := by
      have := Rat.mul_le_mul_of_nonneg_left h1 (Rat.le_of_lt (Rat.zpow_pos (n := -(n : Int)) (prime_pos hi)))
      rwa [Rat.mul_one, e] at this
    refine Rat.le_trans h2 ?_; have := two_le (x := 0) (y := 400000) (by decide)
    rwa [Rat.zpow_zero] at this
  · obtain ⟨n, rfl⟩ := Int.eq_ofNat_of_zero_le h
    have h1 : prime i ^ n ≤ 2 ^ (4 * n) := by
      rw [Nat.pow_mul]; exact Nat.pow_le_pow_left (by omega) n
    have h2 : ((prime i : Nat) : Rat) ^ (n : Int) ≤ 2 ^ ((4 * n : Nat) : Int) := by
      rw [Rat.zpow_natCast, ← Rat.natCast_pow, Rat.zpow_natCast]; have := Rat.natCast_le_natCast.2 h1
      rwa [Rat.natCast_pow 2] at this
    exact Rat.le_trans h2 (two_le (by omega))
theorem pv_le (f : Nat → Int) (h : ∀ j, j < 6 → f j ≤ 100000) : ∀ i, i ≤ 6 → pv f i ≤ 2 ^ ((400000 * i : Nat) : Int)
  | 0, _ => by rw [pv]; exact Rat.le_refl
  | i+1, hi => by
    rw [pv, show ((400000 * (i + 1) : Nat) : Int) = ((400000 * i : Nat) : Int) + 400000 by omega, Rat.zpow_add two_ne]; exact rmul_le (pv_le f h i (by omega)) (prime_le (by omega) _ (h i (by omega))) (Rat.zpow_pos (prime_pos (by omega))) (Rat.zpow_pos two_pos)
theorem TT.small {x : Int} {f : Nat → Int} (h : TT x f) (hf : ∀ j, j < 6 → f j ≤ 100000) : x ≤ 2400000 := by
  rcases Int.lt_or_le 2400000 x with g | g
  · exfalso; have h1 : (2 : Rat) ^ x ≤ 2 ^ (2400000 : Int) := Rat.le_trans h (pv_le f hf 6 (Nat.le_refl _)); exact Rat.not_lt.2 h1 (two_lt g)
  · exact g
theorem SS.small {x : Int} {f : Nat → Int} (h : SS x f) (hf : ∀ j, j < 6 → -100000 ≤ f j) : -2400000 < x := by
  rcases Int.lt_or_le (-2400000) x with g | g
  · exact g
  · exfalso; have h1 : pv (fun j => -f j) 6 ≤ 2 ^ (2400000 : Int) := pv_le (fun j => -f j) (fun j hj => by have := hf j hj; omega) 6 (Nat.le_refl _); have h2 := pv_add f (fun j => -f j) 6 (Nat.le_refl _); rw [pv_congr (g := fun _ => 0) 6 (fun j _ => by show f j + -f j = 0; omega), pv_zero] at h2; have h3 : pv f 6 < 2 ^ (-2400000 : Int) := rlt_of_le h (two_le g); have h4 := rmul_lt h3 h1 (pv_pos _ 6 (Nat.le_refl _)) (Rat.zpow_pos two_pos); rw [← h2, show (-2400000 : Int) = -(2400000 : Int) by rfl, two_inv] at h4; exact Rat.lt_irrefl h4
/-- the octaves of a ratio are found -/
theorem floor_one {a : RV} (ha : checkS a = 0) {e : Ending} (h : FloorRes (termsN a 6) 1 a.d (sgR a 1) e) :
    ∃ k b, e = .returned (.tuple #[.int .i64 k, .bool b, .int .i64 0]) ∧ TT (k * a.d) (fun j => a.num j * 1) ∧ SS ((k + 1) * a.d) (fun j => a.num j * 1) := by
  obtain ⟨a1, a2, _⟩ := checkS_ok ha; unfold FloorRes at h
  split at h
  · rename_i hc; exfalso; rcases hc with hc | hc
    · have hs := ((sgM_TT a 1 a.d 1000000000001).1 hc).small (fun j hj => by have := (a2 j hj).2; omega); have := Int.mul_le_mul_of_nonneg_left a1.1 (by decide : (0 : Int) ≤ 1000000000001); omega
    · have hs := ((sgM_SS a 1 a.d (-1000000000000)).1 hc).small (fun j hj => by have := (a2 j hj).1; omega); have := Int.mul_le_mul_of_nonneg_left a1.1 (by decide : (0 : Int) ≤ 1000000000000); omega
  · obtain ⟨m, _, _, g1, g2, rfl⟩ := h; exact ⟨m, _, rfl, (sgM_TT a 1 a.d m).1 g1, (sgM_SS a 1 a.d (m + 1)).1 g2⟩
end Go.Proofs.YtmcoadmnkelkkaaGreatDoor
namespace Go.Proofs.YtmcoadmnkelkkaaGreatDoor
set_option linter.unusedSimpArgs false
open Go.RowKit
set_option linter.unusedVariables false
theorem CentsRes_bd {r : RV} {e : Ending} (h : CentsRes e r) : ∃ k b er, e = .returned (.tuple #[.int .i64 k, .bool b, .int .i64 er]) ∧ -1000000000000 ≤ k ∧ k ≤ 1000000000000 := by
  by_cases h0 : checkS r = 0
  · exact FloorRes_shape (h.2 h0)
  · exact ⟨0, false, checkS r, h.1 h0, by decide, by decide⟩
/-- Floor answers for the octaves of a checked ratio -/
theorem floor_is (r : RV) (w : World) (hT : PrT w) (h : checkS r = 0) : ∃ e, FloorRes (termsN r 6) 1 r.d (sgR r 1) e := by
  obtain ⟨e, w1, _, ⟨k, hb⟩, _⟩ := Terms_any r w hT []; obtain ⟨A, n, c, _, hTR⟩ := k.2 h; obtain ⟨hd, hin, _⟩ := checkS_ok h; obtain ⟨e2, _, _, ⟨h2, _⟩, _⟩ := Floor_any A n c (termsN r 6) r.d 1 (sgR r 1) w1 hTR (okT_terms hin) hd.1 hd.2 (by decide) (by decide) (fun m h1 h2 => sign_any _ (ok6_atM hin ⟨by decide, by decide⟩ hd ⟨h1, h2⟩)) []; exact ⟨e2, h2⟩
theorem fold_kk (r : RV) (w : World) (hT : PrT w) : ∃ k : Int, -1000000000000 ≤ k ∧ k ≤ 1000000000000 ∧ (checkS r = 0 → ∀ e, FloorRes (termsN r 6) 1 r.d (sgR r 1) e → ∃ b er, e = .returned (.tuple #[.int .i64 k, .bool b, .int .i64 er])) ∧
    (checkS r = 0 → TT (k * r.d) (fun j => r.num j * 1) ∧ SS ((k + 1) * r.d) (fun j => r.num j * 1)) := by
  by_cases h0 : checkS r = 0
  · obtain ⟨e, he⟩ := floor_is r w hT h0; obtain ⟨k, b, er, rfl, h1, h2⟩ := FloorRes_shape he; refine ⟨k, h1, h2, fun _ e' he' => ⟨b, er, FloorRes_det (checkS_ok h0).1.1 he' he⟩, fun _ => ?_⟩; obtain ⟨k', b', hk, h3, h4⟩ := floor_one h0 he; injection hk with hk
    injection hk with hk
    simp at hk; obtain ⟨rfl, _⟩ := hk; exact ⟨h3, h4⟩
  · exact ⟨0, by decide, by decide, fun h => absurd h h0, fun h => absurd h h0⟩
end Go.Proofs.YtmcoadmnkelkkaaGreatDoor
namespace Go.Proofs.YtmcoadmnkelkkaaGreatDoor
set_option linter.unusedSimpArgs false
set_option linter.unusedVariables false
/-- the ratio in lowest terms of exponents over a denominator -/
def nr (v : Nat → Int) (D : Int) : RV := mkR (RV.of v D)
theorem RV.ext6 {r s : RV} (h : ∀ j, j < 6 → r.num j = s.num j) (hd : r.d = s.d) : r = s := by
  obtain ⟨a0, a1, a2, a3, a4, a5, ad⟩ := r; obtain ⟨b0, b1, b2, b3, b4, b5, bd⟩ := s; have h0 := h 0 (by decide); have h1 := h 1 (by decide); have h2 := h 2 (by decide); have h3 := h 3 (by decide); have h4 := h 4 (by decide); have h5 := h 5 (by decide); simp only [RV.num] at h0 h1 h2 h3 h4 h5 hd; subst h0 h1 h2 h3 h4 h5 hd; rfl
theorem RV.gcd_scale (r : RV) (c : Int) : ∀ i, i ≤ 6 → (RV.of (fun j => r.num j * c) (r.d * c)).gcd i = r.gcd i * c.natAbs
  | 0, _ => Int.natAbs_mul _ _
  | i+1, hi => by
    show Nat.gcd ((RV.of (fun j => r.num j * c) (r.d * c)).gcd i) ((RV.of (fun j => r.num j * c) (r.d * c)).num i).natAbs = Nat.gcd (r.gcd i) (r.num i).natAbs * c.natAbs; rw [RV.gcd_scale r c i (by omega), RV.of_num _ _ (by omega), Int.natAbs_mul, Nat.gcd_mul_right]
theorem RV.red_unique {r s : RV} (hr : r.gcd 6 = 1) (hs : s.gcd 6 = 1) (r0 : 1 ≤ r.d) (s0 : 1 ≤ s.d) (h : ∀ j, j < 6 → r.num j * s.d = s.num j * r.d) : r = s := by
  have e1 := RV.gcd_scale r s.d 6 (Nat.le_refl _); have e2 := RV.gcd_scale s r.d 6 (Nat.le_refl _); rw [RV.of_congr _ h, Int.mul_comm r.d s.d] at e1; rw [e1, hr, hs] at e2; have hd : r.d = s.d := by omega
  refine RV.ext6 (fun j hj => ?_) hd; have := h j hj; rw [hd] at this; exact Int.eq_of_mul_eq_mul_right (by omega) this
theorem RV.of_d (f : Nat → Int) (d : Int) : (RV.of f d).d = d := rfl
theorem nr_g (v : Nat → Int) {D : Int} (hD : 1 ≤ D) : ∃ g : Nat, 0 < g ∧ (nr v D).d * (g : Int) = D ∧ ∀ j, j < 6 → (nr v D).num j * (g : Int) = v j := by
  refine ⟨(RV.of v D).gcd 6, (RV.gcd_pos (by exact hD) 6).1, mkR_dg _, fun j hj => ?_⟩; unfold nr; rw [mkR_numg _ hj, RV.of_num _ _ hj]
theorem mkR_cross {R S : RV} (hR : 1 ≤ R.d) (hS : 1 ≤ S.d) (h : ∀ j, j < 6 → R.num j * S.d = S.num j * R.d) : mkR R = mkR S := by
  refine RV.red_unique (mkR_one R hR) (mkR_one S hS) (mkR_pos R hR) (mkR_pos S hS) fun j hj => ?_
  have h1 := mkR_numg R hj; have h2 := mkR_numg S hj; have h3 := mkR_dg R; have h4 := mkR_dg S; have p1 := (RV.gcd_pos hR 6).1; have p2 := (RV.gcd_pos hS 6).1; have h5 := h j hj; rw [← h1, ← h2, ← h3, ← h4] at h5; generalize (mkR R).num j = a at *
  generalize (mkR S).num j = b at *
  generalize (mkR R).d = c at *
  generalize (mkR S).d = d at *
  have hp : (0 : Int) < ((R.gcd 6 : Nat) : Int) * ((S.gcd 6 : Nat) : Int) := Int.mul_pos (by omega) (by omega); generalize ((R.gcd 6 : Nat) : Int) = x at *
  generalize ((S.gcd 6 : Nat) : Int) = y at *
  refine Int.eq_of_mul_eq_mul_right (a := x * y) (by omega) ?_; grind
theorem nr_cross {u v : Nat → Int} {D E : Int} (hD : 1 ≤ D) (hE : 1 ≤ E) (h : ∀ j, j < 6 → u j * E = v j * D) : nr u D = nr v E :=
  mkR_cross hD hE fun j hj => by rw [RV.of_num _ _ hj, RV.of_num _ _ hj]; exact h j hj
theorem nr_congr {u v : Nat → Int} {D : Int} (h : ∀ j, j < 6 → u j = v j) : nr u D = nr v D := by unfold nr; rw [RV.of_congr D h]
/-- Bounds in which a ratio of exponents is valid -/
def fitsV (v : Nat → Int) (D : Int) : Prop := (1 ≤ D ∧ D ≤ 1000) ∧ ∀ j, j < 6 → -100000 ≤ v j ∧ v j ≤ 100000
theorem nr_ok {v : Nat → Int} {D : Int} (h : fitsV v D) : checkS (nr v D) = 0 := by
  obtain ⟨⟨h1, h2⟩, h3⟩ := h; obtain ⟨g, hg, e1, e2⟩ := nr_g v h1; have hp : 1 ≤ (nr v D).d := mkR_pos _ h1; have hg1 : (1 : Int) ≤ (g : Int) := by omega
  unfold checkS; rw [if_neg, if_pos, if_pos]
  · exact mkR_one _ h1
  · intro j hj; have h4 := e2 j hj; have h5 := h3 j hj; have h6 : ((nr v D).num j).natAbs * g = (v j).natAbs := by rw [← h4, Int.natAbs_mul]; rfl
    have h7 : ((nr v D).num j).natAbs ≤ (v j).natAbs := by rw [← h6]; exact Nat.le_mul_of_pos_right _ hg
    unfold inR; omega
  · have h4 : (nr v D).d * 1 ≤ (nr v D).d * (g : Int) := Int.mul_le_mul_of_nonneg_left hg1 (by omega); omega
theorem made_nr {R : RV} {v : Nat → Int} {D : Int} (h : fitsV v D) (hR : 1 ≤ R.d) (hc : ∀ j, j < 6 → R.num j * D = v j * R.d) : madeS R = (nr v D, 0) := by
  have e : mkR R = nr v D := mkR_cross hR h.1.1 fun j hj => by rw [RV.of_num _ _ hj]; exact hc j hj
  have := (madeS_check R hR).1 (by rw [e]; exact nr_ok h); rw [this, e]
theorem join_nr {u v z : Nat → Int} {D s : Int} (hu : fitsV u D) (hv : fitsV v D) (hz : fitsV z D) (he : ∀ j, j < 6 → z j = u j + s * v j) : joinS (nr u D) (nr v D) s = (nr z D, 0) := by
  unfold joinS; rw [if_pos (by unfold firstE; rw [if_pos (nr_ok hu), nr_ok hv])]; obtain ⟨g, hg, a1, a2⟩ := nr_g u hu.1.1; obtain ⟨g', hg', b1, b2⟩ := nr_g v hv.1.1; have p1 : 1 ≤ (nr u D).d := mkR_pos _ hu.1.1; have p2 : 1 ≤ (nr v D).d := mkR_pos _ hv.1.1; refine made_nr hz ?_ fun j hj => ?_
  · have := Int.mul_le_mul p1 p2 (by decide) (by omega : (0 : Int) ≤ (nr u D).d); show 1 ≤ (nr u D).d * (nr v D).d; omega
  · unfold joinR; rw [RV.of_num _ _ hj, RV.of_d, he j hj, ← a2 j hj, ← b2 j hj]; generalize (nr u D).num j = x at *
    generalize (nr v D).num j = y at *
    generalize (nr u D).d = c at *
    generalize (nr v D).d = d at *
    generalize (g : Int) = m at *
    generalize (g' : Int) = n at *
    rw [Int.add_mul, Int.add_mul]; have e1 : x * d * D = x * m * (c * d) := by rw [← a1]; grind
    have e2 : s * y * c * D = s * (y * n) * (c * d) := by rw [← b1]; grind
    rw [e1, e2]
theorem pow_nr {c z : Nat → Int} {n d D m : Int} (hc : fitsV c 1) (hz : fitsV z D) (hn : -1000 ≤ n ∧ n ≤ 1000) (hd : 1 ≤ d ∧ d ≤ 1000) (hD : D = d * m) (he : ∀ j, j < 6 → z j = c j * n * m) : powS (nr c 1) n d = (nr z D, 0) := by
  unfold powS; rw [if_pos (nr_ok hc), if_pos ⟨hn, ⟨by omega, hd.2⟩, by omega⟩]; obtain ⟨g, hg, a1, a2⟩ := nr_g c hc.1.1; have p1 : 1 ≤ (nr c 1).d := mkR_pos _ hc.1.1; unfold powR; rw [if_neg (by omega), if_neg (by omega)]; refine made_nr hz ?_ fun j hj => ?_
  · show 1 ≤ (nr c 1).d * d; have := Int.mul_le_mul p1 hd.1 (by decide) (by omega : (0 : Int) ≤ (nr c 1).d); omega
  · rw [RV.of_num _ _ hj, RV.of_d, he j hj, ← a2 j hj, hD]; generalize (nr c 1).num j = x at *
    generalize (nr c 1).d = y at *
    generalize (g : Int) = w at *
    have : x * w * n * m * (y * d) = x * n * m * d * (y * w) := by grind
    rw [this, a1]; grind
theorem fold_nr {u z : Nat → Int} {D k : Int} (hu : fitsV u D) (hz : fitsV z D) (he : ∀ j, j < 6 → z j = if j = 0 then u j - k * D else u j) : foldS (nr u D) k = (nr z D, k, 0) := by
  obtain ⟨g, hg, a1, a2⟩ := nr_g u hu.1.1; have p1 : 1 ≤ (nr u D).d := mkR_pos _ hu.1.1
  have hm : madeS (foldR (nr u D) k) = (nr z D, 0) := by
    refine made_nr hz p1 fun j hj => ?_
    unfold foldR; rw [RV.of_num _ _ hj, RV.of_d, he j hj]; generalize hx : (if j = 0 then u j - k * D else u j) = a
    have : (if j = 0 then (nr u D).num j - k * (nr u D).d else (nr u D).num j) * (g : Int) = a := by
      rw [← hx]
      split
      · rw [Int.sub_mul, a2 j hj, Int.mul_assoc, a1]
      · exact a2 j hj
    generalize (if j = 0 then (nr u D).num j - k * (nr u D).d else (nr u D).num j) = b at *
    rw [← this, ← a1]; grind
  rw [foldS_ok (nr_ok hu) (by rw [hm]), hm]
theorem TT_nr {u : Nat → Int} {D x : Int} (s : Int) (hD : 1 ≤ D) : TT (x * (nr u D).d) (fun j => (nr u D).num j * s) ↔ TT (x * D) (fun j => u j * s) := by
  obtain ⟨g, hg, a1, a2⟩ := nr_g u hD; have e : ∀ j, j < 6 → (nr u D).num j * s * (g : Int) = u j * s := fun j hj => by rw [Int.mul_right_comm, a2 j hj]
  constructor
  · intro h; exact (h.scale g).cast (by rw [Int.mul_assoc, a1]) e
  · intro h; exact TT.unscale hg (h.cast (by rw [Int.mul_assoc, a1]) fun j hj => (e j hj).symm)
theorem SS_nr {u : Nat → Int} {D x : Int} (s : Int) (hD : 1 ≤ D) : SS (x * (nr u D).d) (fun j => (nr u D).num j * s) ↔ SS (x * D) (fun j => u j * s) := by
  rw [← not_TT, ← not_TT, TT_nr s hD]
end Go.Proofs.YtmcoadmnkelkkaaGreatDoor
namespace Go.Proofs.YtmcoadmnkelkkaaGreatDoor
set_option linter.unusedSimpArgs false
set_option linter.unusedVariables false
/-- a power of 2 as exponents -/
def oct (x : Int) (j : Nat) : Int := if j = 0 then x else 0
/-- the comma -/
def cmv (syn : Bool) (j : Nat) : Int :=
  if syn then (if j = 0 then -4 else if j = 1 then 4 else if j = 2 then -1 else 0) else (if j = 0 then -19 else if j = 1 then 12 else 0)
/-- 3/2 -/
def b32 (j : Nat) : Int := if j = 0 then -1 else if j = 1 then 1 else 0
def bd (j : Nat) : Int := if j = 0 then 39 else if j = 1 then 25 else if j = 2 then 2 else 0
/-- a temperament: of which comma, the wolf, the common denominator, the parts over it -/
structure TP where
  syn : Bool
  w : Nat
  D : Int
  e : Nat → Int
structure TP.Ok (t : TP) : Prop where
  hw : t.w < 12
  hD : 1 ≤ t.D ∧ t.D ≤ 120
  he : ∀ k, k < 12 → -(2 * t.D) ≤ t.e k ∧ t.e k ≤ 2 * t.D
/-- the fifths, but for the wolf -/
def TP.g (t : TP) (k j : Nat) : Int := if k = t.w then 0 else t.D * b32 j - t.e k * cmv t.syn j
def TP.G (t : TP) : Nat → Nat → Int
  | 0, _ => 0
  | n+1, j => t.G n j + t.g n j
theorem TP.Ok.g_bd {t : TP} (h : t.Ok) {k : Nat} (hk : k < 12) (j : Nat) : -(bd j * t.D) ≤ t.g k j ∧ t.g k j ≤ bd j * t.D := by
  obtain ⟨d1, d2⟩ := h.hD; obtain ⟨e1, e2⟩ := h.he k hk; unfold TP.g
  by_cases hw : k = t.w
  · rw [if_pos hw]; unfold bd
    split
    · omega
    · split
      · omega
      · split <;> omega
  · rw [if_neg hw]; unfold b32 cmv bd
    by_cases h0 : j = 0
    · rw [if_pos h0, if_pos h0, if_pos h0, if_pos h0]
      split <;> omega
    · by_cases h1 : j = 1
      · rw [if_neg h0, if_pos h1, if_neg h0, if_pos h1, if_neg h0, if_pos h1, if_neg h0, if_pos h1]
        split <;> omega
      · rw [if_neg h0, if_neg h1, if_neg h0, if_neg h1, if_neg h0, if_neg h1, if_neg h0, if_neg h1]
        split
        · split <;> omega
        · split <;> omega
theorem TP.Ok.G_bd {t : TP} (h : t.Ok) (j m : Nat) : ∀ d : Nat, m + d ≤ 12 → -((d : Int) * (bd j * t.D)) ≤ t.G (m + d) j - t.G m j ∧ t.G (m + d) j - t.G m j ≤ (d : Int) * (bd j * t.D)
  | 0, _ => by
    rw [Nat.add_zero]; omega
  | d+1, hd => by
    have ih := TP.Ok.G_bd h j m d (by omega); have hg := h.g_bd (k := m + d) (by omega) j; rw [← Nat.add_assoc, TP.G, show ((d + 1 : Nat) : Int) = (d : Int) + 1 by omega, Int.add_mul, Int.one_mul]; generalize (d : Int) * (bd j * t.D) = x at *
    omega
theorem bd_nonneg (j : Nat) {D : Int} (hD : 1 ≤ D) : 0 ≤ bd j * D := by
  unfold bd
  split
  · omega
  · split
    · omega
    · split <;> omega
theorem TP.Ok.G_le {t : TP} (h : t.Ok) (j : Nat) {m n : Nat} (hmn : m ≤ n) (hn : n ≤ 12) : -(((n - m : Nat) : Int) * (bd j * t.D)) ≤ t.G n j - t.G m j ∧ t.G n j - t.G m j ≤ ((n - m : Nat) : Int) * (bd j * t.D) := by
  have := h.G_bd j m (n - m) (by omega)
  rwa [show m + (n - m) = n by omega] at this
/-- the first notes' fifths, up from the first one -/
def TP.S (t : TP) (n j : Nat) : Int := if n ≤ t.w then t.G n j else oct (7 * t.D) j - (t.G 12 j - t.G n j)
/-- what is left of seven octaves -/
def TP.rv (t : TP) (n j : Nat) : Int := oct (7 * t.D) j - t.G n j
/-- the fifths -/
def TP.f (t : TP) (k j : Nat) : Int := if k = t.w then t.rv 12 j else t.g k j
theorem TP.S_zero (t : TP) (j : Nat) : t.S 0 j = 0 := by unfold TP.S; rw [if_pos (Nat.zero_le _)]; rfl
theorem TP.S_succ (t : TP) (n j : Nat) : t.S (n + 1) j = t.S n j + t.f n j := by
  unfold TP.S TP.f TP.rv; have hg : t.G (n + 1) j = t.G n j + t.g n j := rfl; rcases Nat.lt_trichotomy n t.w with h | h | h
  · rw [if_pos (by omega), if_pos (by omega), if_neg (by omega), hg]
  · have : t.g n j = 0 := by unfold TP.g; rw [if_pos h]
    rw [if_neg (by omega), if_pos (by omega), if_pos h, hg, this]; omega
  · rw [if_neg (by omega), if_neg (by omega), if_neg (by omega), hg]; omega
theorem TP.Ok.S_last {t : TP} (h : t.Ok) (j : Nat) : t.S 12 j = oct (7 * t.D) j := by
  unfold TP.S; rw [if_neg (by have := h.hw; omega)]; omega
theorem TP.Ok.diff {t : TP} (h : t.Ok) {a b : Nat} (ha : a ≤ 12) (hb : b ≤ 12) (j : Nat) : -(12 * (bd j * t.D) + oct (7 * t.D) j) ≤ t.S a j - t.S b j ∧ t.S a j - t.S b j ≤ 12 * (bd j * t.D) + oct (7 * t.D) j := by
  have hD := h.hD; have hn := bd_nonneg j hD.1; have ho : 0 ≤ oct (7 * t.D) j := by unfold oct; split <;> omega
  have mul : ∀ n : Nat, n ≤ 12 → ((n : Int) * (bd j * t.D) ≤ 12 * (bd j * t.D)) := fun n h => Int.mul_le_mul_of_nonneg_right (by omega) hn
  unfold TP.S
  by_cases h1 : a ≤ t.w
  · by_cases h2 : b ≤ t.w
    · rw [if_pos h1, if_pos h2]; rcases Nat.le_total a b with h3 | h3
      · have := h.G_le j h3 hb; have := mul (b - a) (by omega); omega
      · have := h.G_le j h3 ha; have := mul (a - b) (by omega); omega
    · rw [if_pos h1, if_neg h2]; have h3 := h.G_le j (m := 0) (n := a) (Nat.zero_le _) ha; have h4 := h.G_le j (m := b) (n := 12) hb (Nat.le_refl _); have h5 := mul (a + (12 - b)) (by omega); rw [show ((a + (12 - b) : Nat) : Int) = (a : Int) + ((12 - b : Nat) : Int) by omega, Int.add_mul] at h5; rw [show t.G 0 j = 0 from rfl, Nat.sub_zero] at h3; generalize (a : Int) * (bd j * t.D) = x at *
      generalize ((12 - b : Nat) : Int) * (bd j * t.D) = y at *
      omega
  · by_cases h2 : b ≤ t.w
    · rw [if_neg h1, if_pos h2]; have h3 := h.G_le j (m := 0) (n := b) (Nat.zero_le _) hb; have h4 := h.G_le j (m := a) (n := 12) ha (Nat.le_refl _); have h5 := mul (b + (12 - a)) (by omega); rw [show ((b + (12 - a) : Nat) : Int) = (b : Int) + ((12 - a : Nat) : Int) by omega, Int.add_mul] at h5; rw [show t.G 0 j = 0 from rfl, Nat.sub_zero] at h3; generalize (b : Int) * (bd j * t.D) = x at *
      generalize ((12 - a : Nat) : Int) * (bd j * t.D) = y at *
      omega
    · rw [if_neg h1, if_neg h2]; rcases Nat.le_total a b with h3 | h3
      · have := h.G_le j h3 hb; have := mul (b - a) (by omega); omega
      · have := h.G_le j h3 ha; have := mul (a - b) (by omega); omega
/-- exponents within these bounds -/
def small (z : Nat → Int) (D : Int) : Prop := ∀ j, -(12 * (bd j * D) + oct (7 * D) j) ≤ z j ∧ z j ≤ 12 * (bd j * D) + oct (7 * D) j
theorem small.fits {z : Nat → Int} {D : Int} (hD : 1 ≤ D ∧ D ≤ 120) (h : small z D) : fitsV z D := by
  refine ⟨⟨hD.1, by omega⟩, fun j _ => ?_⟩; have := h j; unfold bd oct at this
  split at this
  · omega
  · split at this
    · omega
    · split at this <;> omega
theorem TP.Ok.S_small {t : TP} (h : t.Ok) {n : Nat} (hn : n ≤ 12) : small (t.S n) t.D := fun j => by
  have := h.diff hn (Nat.zero_le 12) j
  rwa [t.S_zero, Int.sub_zero] at this
theorem TP.Ok.f_small {t : TP} (h : t.Ok) {n : Nat} (hn : n < 12) : small (t.f n) t.D := fun j => by
  have := h.diff (a := n + 1) (b := n) (by omega) (by omega) j
  rwa [t.S_succ, show t.S n j + t.f n j - t.S n j = t.f n j by omega] at this
theorem TP.Ok.rv_small {t : TP} (h : t.Ok) {n : Nat} (hn : n ≤ 12) : small (t.rv n) t.D := fun j => by
  have h3 := h.G_le j (m := 0) (n := n) (Nat.zero_le _) hn; have hnn := bd_nonneg j h.hD.1; have h5 : (n : Int) * (bd j * t.D) ≤ 12 * (bd j * t.D) := Int.mul_le_mul_of_nonneg_right (by omega) hnn; have ho : 0 ≤ oct (7 * t.D) j := by unfold oct; (have := h.hD; split <;> omega)
  rw [show t.G 0 j = 0 from rfl, Nat.sub_zero] at h3; unfold TP.rv; generalize (n : Int) * (bd j * t.D) = x at *
  omega
end Go.Proofs.YtmcoadmnkelkkaaGreatDoor
namespace Go.Proofs.YtmcoadmnkelkkaaGreatDoor
set_option linter.unusedSimpArgs false
set_option linter.unusedVariables false
theorem TT.mono {x y : Int} {f : Nat → Int} (h : TT y f) (hxy : x ≤ y) : TT x f := Rat.le_trans (two_le hxy) h
theorem SS.mono {x y : Int} {f : Nat → Int} (h : SS x f) (hxy : x ≤ y) : SS y f := rlt_of_le h (two_le hxy)
theorem find_floor (D : Int) (u : Nat → Int) : ∀ n : Nat, ∀ a : Int, TT (a * D) u → SS ((a + n) * D) u → ∃ k, TT (k * D) u ∧ SS ((k + 1) * D) u
  | 0, a, h1, h2 => by
    rw [show a + ((0 : Nat) : Int) = a by omega] at h2; exact absurd h1 (not_TT.2 h2)
  | n+1, a, h1, h2 => by
    by_cases h3 : SS ((a + 1) * D) u
    · exact ⟨a, h1, h3⟩
    · exact find_floor D u n (a + 1) (not_SS.1 h3) (by rwa [show a + 1 + (n : Int) = a + ((n + 1 : Nat) : Int) by omega])
theorem floor_ex {u : Nat → Int} {D : Int} (h : fitsV u D) : ∃ k, TT (k * D) u ∧ SS ((k + 1) * D) u := by
  have hD := h.1
  have lo : TT (-2400000 * D) u := by
    refine TT.mono (y := -2400000) ?_ (by omega); refine not_SS.1 fun hs => ?_
    have := hs.small (fun j hj => (h.2 j hj).1); omega
  have hi : SS (2400001 * D) u := by
    refine SS.mono (x := 2400001) ?_ (by omega); refine not_TT.1 fun ht => ?_
    have := ht.small (fun j hj => (h.2 j hj).2); omega
  exact find_floor D u 4800001 (-2400000) lo (by rwa [show (-2400000 : Int) + ((4800001 : Nat) : Int) = 2400001 by decide])
open Classical in
/-- the octaves in exponents -/
noncomputable def flo (u : Nat → Int) (D : Int) : Int := if h : ∃ k, TT (k * D) u ∧ SS ((k + 1) * D) u then Classical.choose h else 0
theorem flo_spec {u : Nat → Int} {D : Int} (h : fitsV u D) : TT (flo u D * D) u ∧ SS ((flo u D + 1) * D) u := by
  have he := floor_ex h; unfold flo; rw [dif_pos he]; exact Classical.choose_spec he
theorem flo_eq {u : Nat → Int} {D k : Int} (hD : 1 ≤ D) (h1 : TT (k * D) u) (h2 : SS ((k + 1) * D) u) : flo u D = k := by
  have he : ∃ k, TT (k * D) u ∧ SS ((k + 1) * D) u := ⟨k, h1, h2⟩; unfold flo; rw [dif_pos he]; obtain ⟨h3, h4⟩ := Classical.choose_spec he; have l1 := lt_of_mul_lt hD (h1.lt h4); have l2 := lt_of_mul_lt hD (h3.lt h2); omega
theorem prime_bits {i b : Nat} (hi : i < 6) (hb : prime i ≤ 2 ^ b) (k : Int) (K : Nat) (hk : k ≤ K) : ((prime i : Nat) : Rat) ^ k ≤ 2 ^ ((b * K : Nat) : Int) := by
  have hp := prime_two hi; rcases Int.lt_or_le k 0 with h | h
  · obtain ⟨n, rfl⟩ : ∃ n : Nat, k = -(n : Int) := ⟨k.natAbs, by omega⟩; have hne : ((prime i : Nat) : Rat) ≠ 0 := Rat.ne_of_gt (prime_pos hi); have e : ((prime i : Nat) : Rat) ^ (-(n : Int)) * ((prime i : Nat) : Rat) ^ (n : Int) = 1 := by rw [← Rat.zpow_add hne, show -(n : Int) + (n : Int) = 0 by omega, Rat.zpow_zero]
    have h1 : (1 : Rat) ≤ ((prime i : Nat) : Rat) ^ (n : Int) := by
      rw [Rat.zpow_natCast, ← Rat.natCast_pow]; have : 1 ≤ prime i ^ n := Nat.pow_pos (by omega); exact Rat.natCast_le_natCast.2 this
    have h2 : ((prime i : Nat) : Rat) ^ (-(n : Int)) ≤ 1 := by
      have := Rat.mul_le_mul_of_nonneg_left h1 (Rat.le_of_lt (Rat.zpow_pos (n := -(n : Int)) (prime_pos hi)))
      rwa [Rat.mul_one, e] at this
    refine Rat.le_trans h2 ?_; have := two_le (x := 0) (y := ((b * K : Nat) : Int)) (by omega)
    rwa [Rat.zpow_zero] at this
  · obtain ⟨n, rfl⟩ := Int.eq_ofNat_of_zero_le h
    have h1 : prime i ^ n ≤ 2 ^ (b * K) := by
      refine Nat.le_trans (Nat.pow_le_pow_left hb n) ?_; rw [← Nat.pow_mul]; exact Nat.pow_le_pow_right (by decide) (Nat.mul_le_mul_left b (by omega))
    rw [Rat.zpow_natCast, ← Rat.natCast_pow, Rat.zpow_natCast]; have := Rat.natCast_le_natCast.2 h1
    rwa [Rat.natCast_pow 2] at this
theorem pv_bits {f : Nat → Int} {A B : Nat} (h1 : f 1 ≤ A) (h2 : f 2 ≤ B) (h0 : f 0 = 0) (h3 : f 3 = 0) (h4 : f 4 = 0) (h5 : f 5 = 0) : SS ((2 * A + 3 * B + 1 : Nat) : Int) f := by
  have e1 := prime_bits (i := 1) (b := 2) (by decide) (by decide) (f 1) A h1; have e2 := prime_bits (i := 2) (b := 3) (by decide) (by decide) (f 2) B h2
  have hp : pv f 6 = ((prime 1 : Nat) : Rat) ^ (f 1) * ((prime 2 : Nat) : Rat) ^ (f 2) := by
    simp only [pv]; rw [h0, h3, h4, h5, Rat.zpow_zero, Rat.zpow_zero, Rat.zpow_zero, Rat.zpow_zero, Rat.mul_one, Rat.mul_one, Rat.mul_one, Rat.mul_one, Rat.one_mul]
  unfold SS; rw [hp]; have h := rmul_le e1 e2 (Rat.zpow_pos (prime_pos (by decide))) (Rat.zpow_pos two_pos); refine rlt_of_lt h ?_; rw [← Rat.zpow_add two_ne]; exact two_lt (by omega)
theorem oct_is (x : Int) : QQ x (oct x) := oct_QQ x
/-- exponents of a value near 1 -/
structure tame (z : Nat → Int) (x : Int) : Prop where
  h1 : -37000 ≤ z 1 ∧ z 1 ≤ 37000
  h2 : -3500 ≤ z 2 ∧ z 2 ≤ 3500
  h3 : z 3 = 0 ∧ z 4 = 0 ∧ z 5 = 0
  lo : TT (-x) z
  hi : SS x z
theorem tame.fits {z : Nat → Int} {x D : Int} (h : tame z x) (hD : 1 ≤ D ∧ D ≤ 1000) (hx : x ≤ 2000) : fitsV z D := by
  obtain ⟨h1, h2, ⟨h3, h4, h5⟩, lo, hi⟩ := h; obtain ⟨y, hy⟩ : ∃ y : Nat → Int, y = fun j => if j = 0 then 0 else z j := ⟨_, rfl⟩
  have y1 : SS ((2 * 37000 + 3 * 3500 + 1 : Nat) : Int) y := by
    subst hy; exact pv_bits (A := 37000) (B := 3500) h1.2 h2.2 rfl h3 h4 h5
  have y2 : SS ((2 * 37000 + 3 * 3500 + 1 : Nat) : Int) (fun j => -y j) := by
    subst hy; refine pv_bits (A := 37000) (B := 3500) ?_ ?_ rfl ?_ ?_ ?_
    · show -z 1 ≤ _; omega
    · show -z 2 ≤ _; omega
    · show -z 3 = 0; omega
    · show -z 4 = 0; omega
    · show -z 5 = 0; omega
  have hz : ∀ j, j < 6 → y j + oct (z 0) j = z j := fun j _ => by
    subst hy; unfold oct; show (if j = 0 then 0 else z j) + (if j = 0 then z 0 else 0) = z j
    split
    · rename_i hj; subst hj; omega
    · omega
  have a1 := lo.lt ((y1.addQ (oct_is (z 0))).congr hz); have a2 := (oct_is (z 0)).tt.lt ((hi.add y2).congr (g := oct (z 0)) fun j hj => by have := hz j hj; omega); refine ⟨hD, fun j hj => ?_⟩; have hj6 : j = 0 ∨ j = 1 ∨ j = 2 ∨ j = 3 ∨ j = 4 ∨ j = 5 := by omega
  rcases hj6 with rfl | rfl | rfl | rfl | rfl | rfl <;> omega
/-- exponents without their octaves -/
noncomputable def fol (u : Nat → Int) (D : Int) (j : Nat) : Int := u j - oct (flo u D * D) j
theorem fol_range {u : Nat → Int} {D : Int} (h : fitsV u D) : TT 0 (fol u D) ∧ SS D (fol u D) := by
  obtain ⟨h1, h2⟩ := flo_spec h; have hE := (oct_is (flo u D * D)).neg; exact ⟨(h1.add hE.tt).cast (by omega) (fun j _ => by unfold fol; omega), (h2.addQ hE).cast (by rw [Int.add_mul, Int.one_mul]; omega) (fun j _ => by unfold fol; omega)⟩
theorem fol_same (u : Nat → Int) (D : Int) {j : Nat} (hj : j ≠ 0) : fol u D j = u j := by unfold fol oct; rw [if_neg hj]; omega
theorem sub_range {u v : Nat → Int} {D : Int} (u1 : TT 0 u) (u2 : SS D u) (v1 : TT 0 v) (v2 : SS D v) : TT (-D) (fun j => u j - v j) ∧ SS D (fun j => u j - v j) := by
  constructor
  · refine not_SS.1 fun h => not_TT.2 ((h.add v2).cast (by omega) (fun j _ => ?_)) u1
    show u j - v j + v j = u j; omega
  · refine not_TT.1 fun h => not_SS.2 ((h.add v1).cast (by omega) (fun j _ => ?_)) u2
    show u j - v j + v j = u j; omega
/-- a note as exponents -/
noncomputable def TP.n (t : TP) (k : Nat) : Nat → Int := fol (t.S k) t.D
theorem TP.Ok.n_range {t : TP} (h : t.Ok) {k : Nat} (hk : k ≤ 12) : TT 0 (t.n k) ∧ SS t.D (t.n k) := fol_range ((h.S_small hk).fits h.hD)
theorem TP.Ok.n_tame {t : TP} (h : t.Ok) {k : Nat} (hk : k ≤ 12) : tame (t.n k) t.D := by
  obtain ⟨r1, r2⟩ := h.n_range hk; have hs := h.S_small hk; have hD := h.hD; refine ⟨?_, ?_, ⟨?_, ?_, ?_⟩, r1.mono (by omega), r2⟩
  · have := hs 1; unfold TP.n; rw [fol_same _ _ (by decide)]; rw [show bd 1 = 25 from rfl, show oct (7 * t.D) 1 = 0 from rfl] at this; omega
  · have := hs 2; unfold TP.n; rw [fol_same _ _ (by decide)]; rw [show bd 2 = 2 from rfl, show oct (7 * t.D) 2 = 0 from rfl] at this; omega
  · have := hs 3; unfold TP.n; rw [fol_same _ _ (by decide)]; rw [show bd 3 = 0 from rfl, show oct (7 * t.D) 3 = 0 from rfl] at this; omega
  · have := hs 4; unfold TP.n; rw [fol_same _ _ (by decide)]; rw [show bd 4 = 0 from rfl, show oct (7 * t.D) 4 = 0 from rfl] at this; omega
  · have := hs 5; unfold TP.n; rw [fol_same _ _ (by decide)]; rw [show bd 5 = 0 from rfl, show oct (7 * t.D) 5 = 0 from rfl] at this; omega
/-- how far it is from a note to another one, not yet from 1 to below 2 -/
noncomputable def TP.y (t : TP) (a b j : Nat) : Int := t.n b j - t.n a j
theorem TP.Ok.y_tame {t : TP} (h : t.Ok) {a b : Nat} (ha : a ≤ 12) (hb : b ≤ 12) : tame (t.y a b) t.D := by
  obtain ⟨a1, a2⟩ := h.n_range ha; obtain ⟨b1, b2⟩ := h.n_range hb; obtain ⟨r1, r2⟩ := sub_range b1 b2 a1 a2; have hD := h.hD; have hs := h.diff hb ha; refine ⟨?_, ?_, ⟨?_, ?_, ?_⟩, r1, r2⟩
  · have := hs 1; unfold TP.y TP.n; rw [fol_same _ _ (by decide), fol_same _ _ (by decide)]; rw [show bd 1 = 25 from rfl, show oct (7 * t.D) 1 = 0 from rfl] at this; omega
  · have := hs 2; unfold TP.y TP.n; rw [fol_same _ _ (by decide), fol_same _ _ (by decide)]; rw [show bd 2 = 2 from rfl, show oct (7 * t.D) 2 = 0 from rfl] at this; omega
  · have := hs 3; unfold TP.y TP.n; rw [fol_same _ _ (by decide), fol_same _ _ (by decide)]; rw [show bd 3 = 0 from rfl, show oct (7 * t.D) 3 = 0 from rfl] at this; omega
  · have := hs 4; unfold TP.y TP.n; rw [fol_same _ _ (by decide), fol_same _ _ (by decide)]; rw [show bd 4 = 0 from rfl, show oct (7 * t.D) 4 = 0 from rfl] at this; omega
  · have := hs 5; unfold TP.y TP.n; rw [fol_same _ _ (by decide), fol_same _ _ (by decide)]; rw [show bd 5 = 0 from rfl, show oct (7 * t.D) 5 = 0 from rfl] at this; omega
/-- how far it is up from a note to another one -/
noncomputable def TP.b (t : TP) (a b : Nat) : Nat → Int := fol (t.y a b) t.D
theorem TP.Ok.b_range {t : TP} (h : t.Ok) {a b : Nat} (ha : a ≤ 12) (hb : b ≤ 12) : TT 0 (t.b a b) ∧ SS t.D (t.b a b) := fol_range ((h.y_tame ha hb).fits ⟨h.hD.1, by have := h.hD; omega⟩ (by have := h.hD; omega))
theorem TP.Ok.b_tame {t : TP} (h : t.Ok) {a b : Nat} (ha : a ≤ 12) (hb : b ≤ 12) : tame (t.b a b) t.D := by
  obtain ⟨r1, r2⟩ := h.b_range ha hb; obtain ⟨h1, h2, h3, _, _⟩ := h.y_tame ha hb; have hD := h.hD; refine ⟨?_, ?_, ⟨?_, ?_, ?_⟩, r1.mono (by omega), r2⟩
  · unfold TP.b; rw [fol_same _ _ (by decide)]; exact h1
  · unfold TP.b; rw [fol_same _ _ (by decide)]; exact h2
  · unfold TP.b; rw [fol_same _ _ (by decide)]; exact h3.1
  · unfold TP.b; rw [fol_same _ _ (by decide)]; exact h3.2.1
  · unfold TP.b; rw [fol_same _ _ (by decide)]; exact h3.2.2
end Go.Proofs.YtmcoadmnkelkkaaGreatDoor
namespace Go.Proofs.YtmcoadmnkelkkaaGreatDoor
set_option linter.unusedSimpArgs false
set_option linter.unusedVariables false
def pn (u : Nat → Nat) : Nat → Nat
  | 0 => 1
  | i+1 => pn u i * prime i ^ u i
theorem pn_pv (u : Nat → Nat) : ∀ i, pv (fun j => (u j : Int)) i = ((pn u i : Nat) : Rat)
  | 0 => rfl
  | i+1 => by rw [pv, pn, pn_pv u i, Rat.natCast_mul, Rat.natCast_pow, Rat.zpow_natCast]
theorem pv_frac {f : Nat → Int} {u d : Nat → Nat} (h : ∀ j, j < 6 → f j = (u j : Int) - (d j : Int)) : pv f 6 * ((pn d 6 : Nat) : Rat) = ((pn u 6 : Nat) : Rat) := by
  rw [← pn_pv, ← pn_pv, ← pv_add f _ 6 (Nat.le_refl _)]; exact pv_congr 6 fun j hj => by rw [h j hj]; omega
theorem two_frac {x : Int} {a b : Nat} (h : x = (a : Int) - b) : (2 : Rat) ^ x * ((2 ^ b : Nat) : Rat) = ((2 ^ a : Nat) : Rat) := by
  rw [Rat.natCast_pow, Rat.natCast_pow, ← Rat.zpow_natCast, ← Rat.zpow_natCast]; show (2 : Rat) ^ x * (2 : Rat) ^ (b : Int) = (2 : Rat) ^ (a : Int); rw [← Rat.zpow_add two_ne, h, show (a : Int) - b + b = a by omega]
theorem pn_pos (u : Nat → Nat) : ∀ i, i ≤ 6 → 0 < pn u i
  | 0, _ => Nat.one_pos
  | i+1, hi => Nat.mul_pos (pn_pos u i (by omega)) (Nat.pow_pos (by have := prime_two (i := i) (by omega); omega))
theorem TT_nat {x : Int} {f : Nat → Int} (a b : Nat) (u d : Nat → Nat) (hx : x = (a : Int) - b) (hf : ∀ j, j < 6 → f j = (u j : Int) - (d j : Int)) (h : 2 ^ a * pn d 6 ≤ 2 ^ b * pn u 6) : TT x f := by
  have h1 := pv_frac hf; have h2 := two_frac hx; have h3 : (((2 ^ a * pn d 6 : Nat)) : Rat) ≤ ((2 ^ b * pn u 6 : Nat) : Rat) := Rat.natCast_le_natCast.2 h; rw [Rat.natCast_mul, Rat.natCast_mul, ← h1, ← h2] at h3; have p1 : (0 : Rat) < ((2 ^ b : Nat) : Rat) := Rat.natCast_pos.2 (Nat.pow_pos (by decide)); have p2 : (0 : Rat) < ((pn d 6 : Nat) : Rat) := Rat.natCast_pos.2 (pn_pos d 6 (Nat.le_refl _)); unfold TT; refine rcancel p1 (rcancel p2 ?_); rw [Rat.mul_assoc (pv f 6), Rat.mul_comm ((2 ^ b : Nat) : Rat), ← Rat.mul_assoc, Rat.mul_comm (pv f 6 * _)]; exact h3
theorem SS_nat {x : Int} {f : Nat → Int} (a b : Nat) (u d : Nat → Nat) (hx : x = (a : Int) - b) (hf : ∀ j, j < 6 → f j = (u j : Int) - (d j : Int)) (h : 2 ^ b * pn u 6 < 2 ^ a * pn d 6) : SS x f := by
  have h1 := pv_frac hf; have h2 := two_frac hx; have h3 : (((2 ^ b * pn u 6 : Nat)) : Rat) < ((2 ^ a * pn d 6 : Nat) : Rat) := Rat.natCast_lt_natCast.2 h; rw [Rat.natCast_mul, Rat.natCast_mul, ← h1, ← h2] at h3; have p1 : (0 : Rat) < ((2 ^ b : Nat) : Rat) := Rat.natCast_pos.2 (Nat.pow_pos (by decide)); have p2 : (0 : Rat) < ((pn d 6 : Nat) : Rat) := Rat.natCast_pos.2 (pn_pos d 6 (Nat.le_refl _)); unfold SS; refine rcancel_lt p1 (rcancel_lt p2 ?_); rw [Rat.mul_assoc (pv f 6), Rat.mul_comm ((2 ^ b : Nat) : Rat), ← Rat.mul_assoc, Rat.mul_comm (pv f 6 * _)]; exact h3
theorem cents_lo {z : Nat → Int} {D m p : Int} {q : Nat} (hq : 0 < q) (h : TT p (fun j => z j * q)) (hc : m * D * q ≤ p * 1200000) : TT (m * D) (fun j => z j * 1200000) :=
  TT.unscale hq (((h.scale 1200000).mono (x := m * D * q) hc).congr fun j _ => by
    show z j * q * 1200000 = z j * 1200000 * q
    rw [Int.mul_right_comm])
theorem cents_hi {z : Nat → Int} {D m p : Int} {q : Nat} (h : SS p (fun j => z j * q)) (hc : p * 1200000 ≤ (m + 1) * D * q) : SS ((m + 1) * D) (fun j => z j * 1200000) :=
  SS.unscale (n := q) (((h.scale' (n := 1200000) (by decide)).mono (y := (m + 1) * D * q) hc).congr fun j _ => by
    show z j * q * 1200000 = z j * 1200000 * q
    rw [Int.mul_right_comm])
theorem Ce.is {u : Nat → Int} {D m m' : Int} {b : Bool} (hD : 1 ≤ D) (h : Ce (nr u D) m' b) (h1 : TT (m * D) (fun j => u j * 1200000)) (h2 : SS ((m + 1) * D) (fun j => u j * 1200000)) : m' = m := by
  have l1 := lt_of_mul_lt hD (((TT_nr 1200000 hD).1 h.lo).lt h2); have l2 := lt_of_mul_lt hD (h1.lt ((SS_nr 1200000 hD).1 h.hi)); omega
/-- the meantone temperament -/
def mt : TP := ⟨true, 8, 4, fun k => if k = 8 then 0 else 1⟩
theorem mt_ok : mt.Ok := ⟨by decide, by decide, by decide⟩
def v3 (a b c : Int) (j : Nat) : Int := if j = 0 then a else if j = 1 then b else if j = 2 then c else 0
theorem six {P : Nat → Prop} (h0 : P 0) (h1 : P 1) (h2 : P 2) (h3 : P 3) (h4 : P 4) (h5 : P 5) : ∀ j, j < 6 → P j := fun j hj => by
  have : j = 0 ∨ j = 1 ∨ j = 2 ∨ j = 3 ∨ j = 4 ∨ j = 5 := by omega
  rcases this with rfl | rfl | rfl | rfl | rfl | rfl <;> assumption
theorem flo_nat {u : Nat → Int} {D : Int} (k : Int) (a b c : Int) (h : ∀ j, j < 6 → u j = v3 a b c j) (hD : 1 ≤ D) (h1 : TT (k * D) (v3 a b c)) (h2 : SS ((k + 1) * D) (v3 a b c)) : flo u D = k :=
  flo_eq hD (h1.congr fun j hj => (h j hj).symm) (h2.congr fun j hj => (h j hj).symm)
theorem fol_v3 {u : Nat → Int} {D k a b c : Int} (h : ∀ j, j < 6 → u j = v3 a b c j) (hk : flo u D = k) : ∀ j, j < 6 → fol u D j = v3 (a - k * D) b c j := fun j hj => by
  unfold fol; rw [hk, h j hj]; unfold oct v3
  split
  · rfl
  · omega
theorem mt_n0_flo : flo (mt.S 0) mt.D = 0 :=
  flo_nat (0) (0) (0) (0) (by decide) (by decide) (TT_nat 0 0 (fun j => if j = 0 then 0 else if j = 1 then 0 else if j = 2 then 0 else 0) (fun j => if j = 0 then 0 else if j = 1 then 0 else if j = 2 then 0 else 0) (by decide) (by decide) (by decide +kernel)) (SS_nat 4 0 (fun j => if j = 0 then 0 else if j = 1 then 0 else if j = 2 then 0 else 0) (fun j => if j = 0 then 0 else if j = 1 then 0 else if j = 2 then 0 else 0) (by decide) (by decide) (by decide +kernel))
theorem mt_n0 : ∀ j, j < 6 → fol (mt.S 0) mt.D j = v3 (0) (0) (0) j := fol_v3 (a := 0) (b := 0) (c := 0) (by decide) mt_n0_flo
theorem mt_n1_flo : flo (mt.S 1) mt.D = 0 :=
  flo_nat (0) (0) (0) (1) (by decide) (by decide) (TT_nat 0 0 (fun j => if j = 0 then 0 else if j = 1 then 0 else if j = 2 then 1 else 0) (fun j => if j = 0 then 0 else if j = 1 then 0 else if j = 2 then 0 else 0) (by decide) (by decide) (by decide +kernel)) (SS_nat 4 0 (fun j => if j = 0 then 0 else if j = 1 then 0 else if j = 2 then 1 else 0) (fun j => if j = 0 then 0 else if j = 1 then 0 else if j = 2 then 0 else 0) (by decide) (by decide) (by decide +kernel))
theorem mt_n1 : ∀ j, j < 6 → fol (mt.S 1) mt.D j = v3 (0) (0) (1) j := fol_v3 (a := 0) (b := 0) (c := 1) (by decide) mt_n1_flo
theorem mt_n4_flo : flo (mt.S 4) mt.D = 2 :=
  flo_nat (2) (0) (0) (4) (by decide) (by decide) (TT_nat 8 0 (fun j => if j = 0 then 0 else if j = 1 then 0 else if j = 2 then 4 else 0) (fun j => if j = 0 then 0 else if j = 1 then 0 else if j = 2 then 0 else 0) (by decide) (by decide) (by decide +kernel)) (SS_nat 12 0 (fun j => if j = 0 then 0 else if j = 1 then 0 else if j = 2 then 4 else 0) (fun j => if j = 0 then 0 else if j = 1 then 0 else if j = 2 then 0 else 0) (by decide) (by decide) (by decide +kernel))
theorem mt_n4 : ∀ j, j < 6 → fol (mt.S 4) mt.D j = v3 (-8) (0) (4) j := fol_v3 (a := 0) (b := 0) (c := 4) (by decide) mt_n4_flo
theorem mt_n8_flo : flo (mt.S 8) mt.D = 4 :=
  flo_nat (4) (0) (0) (8) (by decide) (by decide) (TT_nat 16 0 (fun j => if j = 0 then 0 else if j = 1 then 0 else if j = 2 then 8 else 0) (fun j => if j = 0 then 0 else if j = 1 then 0 else if j = 2 then 0 else 0) (by decide) (by decide) (by decide +kernel)) (SS_nat 20 0 (fun j => if j = 0 then 0 else if j = 1 then 0 else if j = 2 then 8 else 0) (fun j => if j = 0 then 0 else if j = 1 then 0 else if j = 2 then 0 else 0) (by decide) (by decide) (by decide +kernel))
theorem mt_n8 : ∀ j, j < 6 → fol (mt.S 8) mt.D j = v3 (-16) (0) (8) j := fol_v3 (a := 0) (b := 0) (c := 8) (by decide) mt_n8_flo
theorem mt_n9_flo : flo (mt.S 9) mt.D = 5 :=
  flo_nat (5) (28) (0) (-3) (by decide) (by decide) (TT_nat 20 0 (fun j => if j = 0 then 28 else if j = 1 then 0 else if j = 2 then 0 else 0) (fun j => if j = 0 then 0 else if j = 1 then 0 else if j = 2 then 3 else 0) (by decide) (by decide) (by decide +kernel)) (SS_nat 24 0 (fun j => if j = 0 then 28 else if j = 1 then 0 else if j = 2 then 0 else 0) (fun j => if j = 0 then 0 else if j = 1 then 0 else if j = 2 then 3 else 0) (by decide) (by decide) (by decide +kernel))
theorem mt_n9 : ∀ j, j < 6 → fol (mt.S 9) mt.D j = v3 (8) (0) (-3) j := fol_v3 (a := 28) (b := 0) (c := -3) (by decide) mt_n9_flo
theorem mt_b80_flo : flo (mt.y 8 0) mt.D = -1 :=
  flo_nat (-1) (16) (0) (-8) (fun j hj => (by unfold TP.y TP.n; rw [mt_n0 j hj, mt_n8 j hj]; revert j; decide)) (by decide) (TT_nat 0 4 (fun j => if j = 0 then 16 else if j = 1 then 0 else if j = 2 then 0 else 0) (fun j => if j = 0 then 0 else if j = 1 then 0 else if j = 2 then 8 else 0) (by decide) (by decide) (by decide +kernel)) (SS_nat 0 0 (fun j => if j = 0 then 16 else if j = 1 then 0 else if j = 2 then 0 else 0) (fun j => if j = 0 then 0 else if j = 1 then 0 else if j = 2 then 8 else 0) (by decide) (by decide) (by decide +kernel))
theorem mt_b80 : ∀ j, j < 6 → fol (mt.y 8 0) mt.D j = v3 (20) (0) (-8) j := fol_v3 (a := 16) (b := 0) (c := -8) (fun j hj => (by unfold TP.y TP.n; rw [mt_n0 j hj, mt_n8 j hj]; revert j; decide)) mt_b80_flo
theorem mt_b89_flo : flo (mt.y 8 9) mt.D = -1 :=
  flo_nat (-1) (24) (0) (-11) (fun j hj => (by unfold TP.y TP.n; rw [mt_n9 j hj, mt_n8 j hj]; revert j; decide)) (by decide) (TT_nat 0 4 (fun j => if j = 0 then 24 else if j = 1 then 0 else if j = 2 then 0 else 0) (fun j => if j = 0 then 0 else if j = 1 then 0 else if j = 2 then 11 else 0) (by decide) (by decide) (by decide +kernel)) (SS_nat 0 0 (fun j => if j = 0 then 24 else if j = 1 then 0 else if j = 2 then 0 else 0) (fun j => if j = 0 then 0 else if j = 1 then 0 else if j = 2 then 11 else 0) (by decide) (by decide) (by decide +kernel))
theorem mt_b89 : ∀ j, j < 6 → fol (mt.y 8 9) mt.D j = v3 (28) (0) (-11) j := fol_v3 (a := 24) (b := 0) (c := -11) (fun j hj => (by unfold TP.y TP.n; rw [mt_n9 j hj, mt_n8 j hj]; revert j; decide)) mt_b89_flo
theorem mt_c4 {u : Nat → Int} (hu : ∀ j, j < 6 → u j = v3 (-8) (0) (4) j) {m : Int} {b : Bool} (h : Ce (nr u mt.D) m b) : m = 386313 := by
  have l := cents_lo (z := v3 (-8) (0) (4)) (D := mt.D) (m := 386313) (p := 1289) (q := 1001) (by decide) (TT_nat 1289 0 (fun j => if j = 0 then 0 else if j = 1 then 0 else if j = 2 then 4004 else 0) (fun j => if j = 0 then 8008 else if j = 1 then 0 else if j = 2 then 0 else 0) (by decide) (by decide) (by decide +kernel)) (by decide); have r := cents_hi (z := v3 (-8) (0) (4)) (D := mt.D) (m := 386313) (p := 2117) (q := 1644) (SS_nat 2117 0 (fun j => if j = 0 then 0 else if j = 1 then 0 else if j = 2 then 6576 else 0) (fun j => if j = 0 then 13152 else if j = 1 then 0 else if j = 2 then 0 else 0) (by decide) (by decide) (by decide +kernel)) (by decide); exact Ce.is (by decide) h (l.congr fun j hj => by rw [hu j hj]) (r.congr fun j hj => by rw [hu j hj])
theorem mt_c1 {u : Nat → Int} (hu : ∀ j, j < 6 → u j = v3 (0) (0) (1) j) {m : Int} {b : Bool} (h : Ce (nr u mt.D) m b) : m = 696578 := by
  have l := cents_lo (z := v3 (0) (0) (1)) (D := mt.D) (m := 696578) (p := 3325) (q := 1432) (by decide) (TT_nat 3325 0 (fun j => if j = 0 then 0 else if j = 1 then 0 else if j = 2 then 1432 else 0) (fun j => if j = 0 then 0 else if j = 1 then 0 else if j = 2 then 0 else 0) (by decide) (by decide) (by decide +kernel)) (by decide); have r := cents_hi (z := v3 (0) (0) (1)) (D := mt.D) (m := 696578) (p := 1493) (q := 643) (SS_nat 1493 0 (fun j => if j = 0 then 0 else if j = 1 then 0 else if j = 2 then 643 else 0) (fun j => if j = 0 then 0 else if j = 1 then 0 else if j = 2 then 0 else 0) (by decide) (by decide) (by decide +kernel)) (by decide); exact Ce.is (by decide) h (l.congr fun j hj => by rw [hu j hj]) (r.congr fun j hj => by rw [hu j hj])
theorem mt_third {u : Nat → Int} (hu : ∀ j, j < 6 → u j = v3 (28) (0) (-12) j) {m : Int} {b : Bool} (h : Ce (nr u mt.D) m b) : m = 41058 := by
  have l := cents_lo (z := v3 (28) (0) (-12)) (D := mt.D) (m := 41058) (p := 75) (q := 548) (by decide) (TT_nat 75 0 (fun j => if j = 0 then 15344 else if j = 1 then 0 else if j = 2 then 0 else 0) (fun j => if j = 0 then 0 else if j = 1 then 0 else if j = 2 then 6576 else 0) (by decide) (by decide) (by decide +kernel)) (by decide); have r := cents_hi (z := v3 (28) (0) (-12)) (D := mt.D) (m := 41058) (p := 137) (q := 1001) (SS_nat 137 0 (fun j => if j = 0 then 28028 else if j = 1 then 0 else if j = 2 then 0 else 0) (fun j => if j = 0 then 0 else if j = 1 then 0 else if j = 2 then 12012 else 0) (by decide) (by decide) (by decide +kernel)) (by decide); exact Ce.is (by decide) h (l.congr fun j hj => by rw [hu j hj]) (r.congr fun j hj => by rw [hu j hj])
theorem mt_fifth {u : Nat → Int} (hu : ∀ j, j < 6 → u j = v3 (32) (-4) (-11) j) {m : Int} {b : Bool} (h : Ce (nr u mt.D) m b) : m = 35682 := by
  have l := cents_lo (z := v3 (32) (-4) (-11)) (D := mt.D) (m := 35682) (p := 211) (q := 1774) (by decide) (TT_nat 211 0 (fun j => if j = 0 then 56768 else if j = 1 then 0 else if j = 2 then 0 else 0) (fun j => if j = 0 then 0 else if j = 1 then 7096 else if j = 2 then 19514 else 0) (by decide) (by decide) (by decide +kernel)) (by decide); have r := cents_hi (z := v3 (32) (-4) (-11)) (D := mt.D) (m := 35682) (p := 27) (q := 227) (SS_nat 27 0 (fun j => if j = 0 then 7264 else if j = 1 then 0 else if j = 2 then 0 else 0) (fun j => if j = 0 then 0 else if j = 1 then 908 else if j = 2 then 2497 else 0) (by decide) (by decide) (by decide +kernel)) (by decide); exact Ce.is (by decide) h (l.congr fun j hj => by rw [hu j hj]) (r.congr fun j hj => by rw [hu j hj])
end Go.Proofs.YtmcoadmnkelkkaaGreatDoor
namespace Go.Proofs.YtmcoadmnkelkkaaGreatDoor
set_option linter.unusedSimpArgs false
set_option linter.unusedVariables false
theorem nr_one (f : Nat → Int) : RV.of f 1 = nr f 1 := by
  have hg : (RV.of f 1).gcd 6 = 1 := Nat.eq_one_of_dvd_one ((RV.gcd_dvd (RV.of f 1) 6).1); unfold nr; refine RV.red_unique hg (mkR_one _ (Int.le_refl 1)) (Int.le_refl 1) (mkR_pos _ (Int.le_refl 1)) fun j hj => ?_
  have e1 := mkR_numg (RV.of f 1) hj; have e2 := mkR_dg (RV.of f 1); rw [hg] at e1 e2; rw [show ((1 : Nat) : Int) = 1 by rfl, Int.mul_one] at e1 e2; rw [e1, e2]
theorem nr_up (f : Nat → Int) {D : Int} (hD : 1 ≤ D) : nr f 1 = nr (fun j => f j * D) D := nr_cross (by decide) hD fun j _ => by rw [Int.mul_one]
theorem of_pyth : ofS 531441 524288 = (nr (v3 (-19) (12) (0)) 1, 0) := by
  have h1 : stripN (531441 : Int).natAbs 6 = stripN (524288 : Int).natAbs 6 := by decide +kernel
  have h2 : ∀ j, j < 6 → ofF (531441 : Int).natAbs (524288 : Int).natAbs 6 j = v3 (-19) (12) (0) j := six (by decide +kernel) (by decide +kernel) (by decide +kernel) (by decide +kernel) (by decide +kernel) (by decide +kernel); unfold ofS; rw [if_pos ⟨⟨by decide, by decide⟩, ⟨by decide, by decide⟩⟩, if_pos h1, RV.of_congr 1 h2, nr_one]
theorem of_synt : ofS 81 80 = (nr (v3 (-4) (4) (-1)) 1, 0) := by
  have h1 : stripN (81 : Int).natAbs 6 = stripN (80 : Int).natAbs 6 := by decide +kernel
  have h2 : ∀ j, j < 6 → ofF (81 : Int).natAbs (80 : Int).natAbs 6 j = v3 (-4) (4) (-1) j := six (by decide +kernel) (by decide +kernel) (by decide +kernel) (by decide +kernel) (by decide +kernel) (by decide +kernel); unfold ofS; rw [if_pos ⟨⟨by decide, by decide⟩, ⟨by decide, by decide⟩⟩, if_pos h1, RV.of_congr 1 h2, nr_one]
theorem of_seven : ofS 128 1 = (nr (v3 (7) (0) (0)) 1, 0) := by
  have h1 : stripN (128 : Int).natAbs 6 = stripN (1 : Int).natAbs 6 := by decide +kernel
  have h2 : ∀ j, j < 6 → ofF (128 : Int).natAbs (1 : Int).natAbs 6 j = v3 (7) (0) (0) j := six (by decide +kernel) (by decide +kernel) (by decide +kernel) (by decide +kernel) (by decide +kernel) (by decide +kernel); unfold ofS; rw [if_pos ⟨⟨by decide, by decide⟩, ⟨by decide, by decide⟩⟩, if_pos h1, RV.of_congr 1 h2, nr_one]
theorem of_fif : ofS 3 2 = (nr (v3 (-1) (1) (0)) 1, 0) := by
  have h1 : stripN (3 : Int).natAbs 6 = stripN (2 : Int).natAbs 6 := by decide +kernel
  have h2 : ∀ j, j < 6 → ofF (3 : Int).natAbs (2 : Int).natAbs 6 j = v3 (-1) (1) (0) j := six (by decide +kernel) (by decide +kernel) (by decide +kernel) (by decide +kernel) (by decide +kernel) (by decide +kernel); unfold ofS; rw [if_pos ⟨⟨by decide, by decide⟩, ⟨by decide, by decide⟩⟩, if_pos h1, RV.of_congr 1 h2, nr_one]
theorem of_thi : ofS 5 4 = (nr (v3 (-2) (0) (1)) 1, 0) := by
  have h1 : stripN (5 : Int).natAbs 6 = stripN (4 : Int).natAbs 6 := by decide +kernel
  have h2 : ∀ j, j < 6 → ofF (5 : Int).natAbs (4 : Int).natAbs 6 j = v3 (-2) (0) (1) j := six (by decide +kernel) (by decide +kernel) (by decide +kernel) (by decide +kernel) (by decide +kernel) (by decide +kernel); unfold ofS; rw [if_pos ⟨⟨by decide, by decide⟩, ⟨by decide, by decide⟩⟩, if_pos h1, RV.of_congr 1 h2, nr_one]
theorem of_one : ofS 1 1 = (nr (v3 (0) (0) (0)) 1, 0) := by
  have h1 : stripN (1 : Int).natAbs 6 = stripN (1 : Int).natAbs 6 := by decide +kernel
  have h2 : ∀ j, j < 6 → ofF (1 : Int).natAbs (1 : Int).natAbs 6 j = v3 (0) (0) (0) j := six (by decide +kernel) (by decide +kernel) (by decide +kernel) (by decide +kernel) (by decide +kernel) (by decide +kernel); unfold ofS; rw [if_pos ⟨⟨by decide, by decide⟩, ⟨by decide, by decide⟩⟩, if_pos h1, RV.of_congr 1 h2, nr_one]
end Go.Proofs.YtmcoadmnkelkkaaGreatDoor
namespace Go.Proofs.YtmcoadmnkelkkaaGreatDoor
set_option linter.unusedSimpArgs false
set_option linter.unusedVariables false
/-- the parts of a temperament over their common denominator -/
def TV.tp (t : TV) : TP := ⟨t.syn, t.wolf.toNat, (t.all 12 : Nat), fun k => t.num k * ((t.all 12 : Nat) / t.den k)⟩
theorem TV.tp_den {N : ByteArray → Bool} {t : TV} (h : t.chk N = 0) {k : Nat} (hk : k < 12) : t.tp.D = t.den k * ((t.all 12 : Nat) / t.den k) := by
  obtain ⟨_, h2, _, _, _, h6⟩ := TV.chk_ok h; have hd := TV.all_dvd h2 12 (Nat.le_refl _) h6 k hk; exact (Int.mul_ediv_cancel' (Int.natAbs_dvd.1 (Int.ofNat_dvd.2 hd))).symm
theorem TV.tp_ok {N : ByteArray → Bool} {t : TV} (h : t.chk N = 0) : t.tp.Ok := by
  obtain ⟨h1, h2, _, _, h5, h6⟩ := TV.chk_ok h; have hp := TV.all_pos h2 12 (Nat.le_refl _); refine ⟨?_, ?_, fun k hk => ?_⟩
  · show t.wolf.toNat < 12; omega
  · show 1 ≤ ((t.all 12 : Nat) : Int) ∧ ((t.all 12 : Nat) : Int) ≤ 120; omega
  · have hb := h2 k hk; have hD := TV.tp_den h hk; have hD0 : 1 ≤ t.tp.D := by show 1 ≤ ((t.all 12 : Nat) : Int); omega
    unfold TV.bad at hb; show -(2 * t.tp.D) ≤ t.num k * ((t.all 12 : Nat) / t.den k) ∧ t.num k * ((t.all 12 : Nat) / t.den k) ≤ 2 * t.tp.D; rw [hD]; rw [hD] at hD0; generalize ((t.all 12 : Nat) : Int) / t.den k = m at *
    have hm : 0 ≤ m := by
      rcases Int.lt_or_le m 0 with g | g
      · have := Int.mul_le_mul_of_nonneg_left (show m ≤ 0 by omega) (show 0 ≤ t.den k by omega); omega
      · exact g
    have l1 := Int.mul_le_mul_of_nonneg_right (show -2 * t.den k ≤ t.num k by omega) hm; have l2 := Int.mul_le_mul_of_nonneg_right (show t.num k ≤ 2 * t.den k by omega) hm; rw [Int.mul_assoc] at l1 l2; omega
theorem TV.tp_wolf {N : ByteArray → Bool} {t : TV} (h : t.chk N = 0) : t.tp.e t.tp.w = 0 := by
  obtain ⟨_, _, _, _, h5, _⟩ := TV.chk_ok h; show t.num t.wolf.toNat * _ = 0; rw [h5, Int.zero_mul]
/-- the meantone temperament as a value -/
def mtT : TV := ⟨"meantone".toUTF8, true, 8, fun k => if k = 8 then 0 else 1, fun k => if k = 8 then 1 else 4⟩
theorem mtT_all : mtT.all 12 = 4 := by decide +kernel
theorem mtT_chk : mtT.chk nameS = 0 := by
  have hn : nameS mtT.nm = true := by decide +kernel
  unfold TV.chk; rw [if_neg (by decide), if_neg, if_neg, if_neg (by rw [mtT_all]; decide)]
  · rw [hn]; rintro (h | ⟨i, hi, h⟩ | h)
    · exact absurd h (by decide)
    · refine h ?_; unfold TV.low mtT; show Nat.gcd (if i = 8 then (0 : Int) else 1).natAbs (if i = 8 then (1 : Int) else 4).natAbs = 1
      split <;> rfl
    · exact h (by decide)
  · rintro ⟨i, hi, h⟩; unfold TV.bad mtT at h; simp only [] at h
    split at h <;> omega
theorem mtT_tp : mtT.tp = mt := by
  unfold TV.tp mt; rw [mtT_all]; congr 1; funext k; show (if k = 8 then (0 : Int) else 1) * (((4 : Nat) : Int) / (if k = 8 then (1 : Int) else 4)) = if k = 8 then 0 else 1
  split <;> rfl
end Go.Proofs.YtmcoadmnkelkkaaGreatDoor
namespace Go.Proofs.YtmcoadmnkelkkaaGreatDoor
set_option linter.unusedSimpArgs false
set_option linter.unusedVariables false
theorem of_comma (syn : Bool) : (if syn then ofS 81 80 else ofS 531441 524288) = (nr (cmv syn) 1, 0) := by
  cases syn
  · show ofS 531441 524288 = _; rw [of_pyth]; exact congrArg (fun r : RV => (r, (0 : Int))) (nr_congr (by decide))
  · show ofS 81 80 = _; rw [of_synt]; exact congrArg (fun r : RV => (r, (0 : Int))) (nr_congr (by decide))
/-- a part of the comma as exponents -/
def TP.pt (t : TP) (k j : Nat) : Int := t.e k * cmv t.syn j
theorem cmv_bd (syn : Bool) : ∀ j, j < 6 → -19 ≤ cmv syn j ∧ cmv syn j ≤ 12 := by cases syn <;> decide
theorem TP.Ok.pt_fits {t : TP} (h : t.Ok) {k : Nat} (hk : k < 12) : fitsV (t.pt k) t.D := by
  have hD := h.hD; refine ⟨⟨hD.1, by omega⟩, fun j hj => ?_⟩; obtain ⟨e1, e2⟩ := h.he k hk; obtain ⟨c1, c2⟩ := cmv_bd t.syn j hj; unfold TP.pt
  have a : (t.e k * cmv t.syn j).natAbs ≤ 240 * 19 := by
    rw [Int.natAbs_mul]; exact Nat.mul_le_mul (by omega) (by omega)
  omega
theorem cmv_fits (syn : Bool) : fitsV (cmv syn) 1 := ⟨by decide, fun j hj => by have := cmv_bd syn j hj; omega⟩
theorem TV.part_pow {N : ByteArray → Bool} {t : TV} (h : t.chk N = 0) {k : Nat} (hk : k < 12) : powS (nr (cmv t.syn) 1) (t.num k) (t.den k) = (nr (t.tp.pt k) t.tp.D, 0) := by
  have hok := TV.tp_ok h; obtain ⟨_, h2, _, _, _, _⟩ := TV.chk_ok h; have hb := h2 k hk; unfold TV.bad at hb; refine pow_nr (m := (t.all 12 : Nat) / t.den k) (cmv_fits t.syn) (hok.pt_fits hk) ⟨by omega, by omega⟩ ⟨by omega, by omega⟩ (TV.tp_den h hk) fun j hj => ?_
  show t.num k * ((t.all 12 : Nat) / t.den k) * cmv t.syn j = cmv t.syn j * t.num k * ((t.all 12 : Nat) / t.den k); generalize ((t.all 12 : Nat) : Int) / t.den k = m; generalize cmv t.syn j = c; generalize t.num k = n; rw [Int.mul_comm, ← Int.mul_assoc]
theorem TP.Ok.g_fits {t : TP} (h : t.Ok) {k : Nat} (hk : k < 12) : fitsV (t.g k) t.D := by
  have hD := h.hD; refine ⟨⟨hD.1, by omega⟩, fun j hj => ?_⟩; have := h.g_bd hk j; unfold bd at this
  split at this
  · omega
  · split at this
    · omega
    · split at this <;> omega
theorem up_fits {f : Nat → Int} {D : Int} (hD : 1 ≤ D ∧ D ≤ 120) (hf : ∀ j, j < 6 → -100 ≤ f j ∧ f j ≤ 100) : fitsV (fun j => f j * D) D := by
  refine ⟨⟨hD.1, by omega⟩, fun j hj => ?_⟩
  have a : (f j * D).natAbs ≤ 100 * 120 := by
    rw [Int.natAbs_mul]; exact Nat.mul_le_mul (by have := hf j hj; omega) (by omega)
  show -100000 ≤ f j * D ∧ f j * D ≤ 100000; omega
theorem fif_up {D : Int} (hD : 1 ≤ D) : ofS 3 2 = (nr (fun j => b32 j * D) D, 0) := by
  rw [of_fif, nr_up _ hD]; refine congrArg (fun r : RV => (r, (0 : Int))) ?_
  exact nr_congr fun j hj => by
    have e : v3 (-1) 1 0 j = b32 j := by revert j; decide
    rw [e]
theorem b32_bd : ∀ j, j < 6 → -100 ≤ b32 j ∧ b32 j ≤ 100 := by decide
theorem TP.Ok.fifth_join {t : TP} (h : t.Ok) {k : Nat} (hk : k < 12) (hw : k ≠ t.w) : joinS (nr (fun j => b32 j * t.D) t.D) (nr (t.pt k) t.D) (-1) = (nr (t.g k) t.D, 0) :=
  join_nr (up_fits h.hD b32_bd) (h.pt_fits hk) (h.g_fits hk) fun j hj => by
    unfold TP.g TP.pt; rw [if_neg hw, Int.mul_comm t.D]; omega
theorem TP.Ok.rest_join {t : TP} (h : t.Ok) {k : Nat} (hk : k < 12) : joinS (nr (t.rv k) t.D) (nr (t.g k) t.D) (-1) = (nr (t.rv (k + 1)) t.D, 0) :=
  join_nr ((h.rv_small (by omega)).fits h.hD) (h.g_fits hk) ((h.rv_small (by omega)).fits h.hD) fun j hj => by
    unfold TP.rv; rw [TP.G]; omega
theorem TP.rest_wolf (t : TP) : nr (t.rv (t.w + 1)) t.D = nr (t.rv t.w) t.D := nr_congr fun j hj => by
  unfold TP.rv; rw [TP.G]; unfold TP.g; rw [if_pos rfl]; omega
theorem TP.Ok.seven {t : TP} (h : t.Ok) : ofS 128 1 = (nr (t.rv 0) t.D, 0) := by
  rw [of_seven, nr_up _ h.hD.1]; refine congrArg (fun r : RV => (r, (0 : Int))) ?_
  exact nr_congr fun j hj => by
    have e : v3 7 0 0 j = oct 7 j := by revert j; decide
    unfold TP.rv; rw [TP.G, e]; unfold oct
    split <;> omega
theorem TP.f_ne {t : TP} {k : Nat} (hw : k ≠ t.w) : t.f k = t.g k := by unfold TP.f; funext j; rw [if_neg hw]
theorem TP.f_w (t : TP) : t.f t.w = t.rv 12 := by unfold TP.f; funext j; rw [if_pos rfl]
theorem TP.Ok.f_fits {t : TP} (h : t.Ok) {k : Nat} (hk : k < 12) : fitsV (t.f k) t.D := (h.f_small hk).fits h.hD
theorem TP.Ok.S_fits {t : TP} (h : t.Ok) {k : Nat} (hk : k ≤ 12) : fitsV (t.S k) t.D := (h.S_small hk).fits h.hD
theorem TP.Ok.note_join {t : TP} (h : t.Ok) {k : Nat} (hk : k < 12) : joinS (nr (t.S k) t.D) (nr (t.f k) t.D) 1 = (nr (t.S (k + 1)) t.D, 0) :=
  join_nr (h.S_fits (by omega)) (h.f_fits hk) (h.S_fits (by omega)) fun j hj => by rw [TP.S_succ]; omega
theorem TP.Ok.one {t : TP} (h : t.Ok) : ofS 1 1 = (nr (t.S 0) t.D, 0) := by
  rw [of_one, nr_up _ h.hD.1]; refine congrArg (fun r : RV => (r, (0 : Int))) ?_
  exact nr_congr fun j hj => by
    have e : v3 0 0 0 j = 0 := by revert j; decide
    rw [TP.S_zero, e]; omega
theorem TP.Ok.n_fits {t : TP} (h : t.Ok) {k : Nat} (hk : k ≤ 12) : fitsV (t.n k) t.D := (h.n_tame hk).fits ⟨h.hD.1, by have := h.hD; omega⟩ (by have := h.hD; omega)
theorem TP.Ok.y_fits {t : TP} (h : t.Ok) {a b : Nat} (ha : a ≤ 12) (hb : b ≤ 12) : fitsV (t.y a b) t.D := (h.y_tame ha hb).fits ⟨h.hD.1, by have := h.hD; omega⟩ (by have := h.hD; omega)
theorem TP.Ok.b_fits {t : TP} (h : t.Ok) {a b : Nat} (ha : a ≤ 12) (hb : b ≤ 12) : fitsV (t.b a b) t.D := (h.b_tame ha hb).fits ⟨h.hD.1, by have := h.hD; omega⟩ (by have := h.hD; omega)
theorem TP.Ok.way_join {t : TP} (h : t.Ok) {a b : Nat} (ha : a ≤ 12) (hb : b ≤ 12) : joinS (nr (t.n b) t.D) (nr (t.n a) t.D) (-1) = (nr (t.y a b) t.D, 0) :=
  join_nr (h.n_fits hb) (h.n_fits ha) (h.y_fits ha hb) fun j hj => by unfold TP.y; omega
/-- an interval less a pure one -/
noncomputable def TP.x (t : TP) (p : Nat → Int) (a b j : Nat) : Int := t.b a b j - p j * t.D
theorem b32_rng {D : Int} (hD : 1 ≤ D) : TT 0 (fun j => b32 j * D) ∧ SS D (fun j => b32 j * D) := by
  obtain ⟨n, rfl⟩ : ∃ n : Nat, D = (n : Int) := ⟨D.toNat, by omega⟩; have h1 : TT 0 b32 := TT_nat 0 0 (fun j => if j = 1 then 1 else 0) (fun j => if j = 0 then 1 else 0) (by decide) (by decide) (by decide +kernel); have h2 : SS 1 b32 := SS_nat 1 0 (fun j => if j = 1 then 1 else 0) (fun j => if j = 0 then 1 else 0) (by decide) (by decide) (by decide +kernel); exact ⟨(h1.scale n).cast (by omega) fun _ _ => rfl, (h2.scale' (n := n) (by omega)).cast (by omega) fun _ _ => rfl⟩
def b54 (j : Nat) : Int := if j = 0 then -2 else if j = 2 then 1 else 0
theorem b54_rng {D : Int} (hD : 1 ≤ D) : TT 0 (fun j => b54 j * D) ∧ SS D (fun j => b54 j * D) := by
  obtain ⟨n, rfl⟩ : ∃ n : Nat, D = (n : Int) := ⟨D.toNat, by omega⟩; have h1 : TT 0 b54 := TT_nat 0 0 (fun j => if j = 2 then 1 else 0) (fun j => if j = 0 then 2 else 0) (by decide) (by decide) (by decide +kernel); have h2 : SS 1 b54 := SS_nat 1 0 (fun j => if j = 2 then 1 else 0) (fun j => if j = 0 then 2 else 0) (by decide) (by decide) (by decide +kernel); exact ⟨(h1.scale n).cast (by omega) fun _ _ => rfl, (h2.scale' (n := n) (by omega)).cast (by omega) fun _ _ => rfl⟩
theorem thi_up {D : Int} (hD : 1 ≤ D) : ofS 5 4 = (nr (fun j => b54 j * D) D, 0) := by
  rw [of_thi, nr_up _ hD]; refine congrArg (fun r : RV => (r, (0 : Int))) ?_
  exact nr_congr fun j hj => by
    have e : v3 (-2) 0 1 j = b54 j := by revert j; decide
    rw [e]
theorem b54_bd : ∀ j, j < 6 → -100 ≤ b54 j ∧ b54 j ≤ 100 := by decide
/-- what is asked of a pure interval -/
structure Pure (p : Nat → Int) : Prop where
  bd : ∀ j, j < 6 → -100 ≤ p j ∧ p j ≤ 100
  rng : ∀ D : Int, 1 ≤ D → TT 0 (fun j => p j * D) ∧ SS D (fun j => p j * D)
  z : p 3 = 0 ∧ p 4 = 0 ∧ p 5 = 0
  u : (-1 ≤ p 1 ∧ p 1 ≤ 1) ∧ -1 ≤ p 2 ∧ p 2 ≤ 1
theorem pure32 : Pure b32 := ⟨b32_bd, fun _ h => b32_rng h, by decide, by decide⟩
theorem pure54 : Pure b54 := ⟨b54_bd, fun _ h => b54_rng h, by decide, by decide⟩
theorem TP.Ok.x_rng {t : TP} (h : t.Ok) {p : Nat → Int} (hp : Pure p) {a b : Nat} (ha : a ≤ 12) (hb : b ≤ 12) : TT (-t.D) (t.x p a b) ∧ SS t.D (t.x p a b) := by
  obtain ⟨r1, r2⟩ := h.b_range ha hb; obtain ⟨p1, p2⟩ := hp.rng t.D h.hD.1; exact sub_range r1 r2 p1 p2
theorem TP.Ok.x_fits {t : TP} (h : t.Ok) {p : Nat → Int} (hp : Pure p) {a b : Nat} (ha : a ≤ 12) (hb : b ≤ 12) : fitsV (t.x p a b) t.D := by
  have hD := h.hD; refine ⟨⟨hD.1, by omega⟩, fun j hj => ?_⟩; have h1 := (h.b_fits ha hb).2 j hj; have h2 := (up_fits (f := p) hD hp.bd).2 j hj; obtain ⟨r1, r2⟩ := h.x_rng hp ha hb; have hbt := h.b_tame ha hb
  have tx : tame (t.x p a b) t.D := by
    refine ⟨?_, ?_, ⟨?_, ?_, ?_⟩, r1, r2⟩
    · have e1 : t.x p a b 1 = t.S b 1 - t.S a 1 - p 1 * t.D := by
        unfold TP.x TP.b; rw [fol_same _ _ (by decide)]; unfold TP.y TP.n; rw [fol_same _ _ (by decide), fol_same _ _ (by decide)]
      have d1 := h.diff hb ha 1; rw [show bd 1 = 25 from rfl, show oct (7 * t.D) 1 = 0 from rfl] at d1; have m1 := Int.mul_le_mul_of_nonneg_right hp.u.1.1 (show 0 ≤ t.D by omega); have m2 := Int.mul_le_mul_of_nonneg_right hp.u.1.2 (show 0 ≤ t.D by omega); rw [e1]; omega
    · have e1 : t.x p a b 2 = t.S b 2 - t.S a 2 - p 2 * t.D := by
        unfold TP.x TP.b; rw [fol_same _ _ (by decide)]; unfold TP.y TP.n; rw [fol_same _ _ (by decide), fol_same _ _ (by decide)]
      have d1 := h.diff hb ha 2; rw [show bd 2 = 2 from rfl, show oct (7 * t.D) 2 = 0 from rfl] at d1; have m1 := Int.mul_le_mul_of_nonneg_right hp.u.2.1 (show 0 ≤ t.D by omega); have m2 := Int.mul_le_mul_of_nonneg_right hp.u.2.2 (show 0 ≤ t.D by omega); rw [e1]; omega
    · unfold TP.x; rw [hbt.h3.1, hp.z.1]; omega
    · unfold TP.x; rw [hbt.h3.2.1, hp.z.2.1]; omega
    · unfold TP.x; rw [hbt.h3.2.2, hp.z.2.2]; omega
  exact (tx.fits ⟨hD.1, by omega⟩ (by omega)).2 j hj
theorem TP.Ok.x_join {t : TP} (h : t.Ok) {p : Nat → Int} (hp : Pure p) {a b : Nat} (ha : a ≤ 12) (hb : b ≤ 12) : joinS (nr (t.b a b) t.D) (nr (fun j => p j * t.D) t.D) (-1) = (nr (t.x p a b) t.D, 0) :=
  join_nr (h.b_fits ha hb) (up_fits h.hD hp.bd) (h.x_fits hp ha hb) fun j hj => by unfold TP.x; omega
end Go.Proofs.YtmcoadmnkelkkaaGreatDoor
